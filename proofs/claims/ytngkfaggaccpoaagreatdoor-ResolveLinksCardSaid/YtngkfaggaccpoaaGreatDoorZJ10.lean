/- Contracts of functions that the law reaches, part 10 of 10; no condition. -/
import Derived.Test.YtngkfaggaccpoaaGreatDoorTie
import Derived.LaidMore
import Derived.Stop.LaidErr
import Derived.Test.YtngkfaggaccpoaaGreatDoorZJ9
namespace Go.Proofs.YtngkfaggaccpoaaGreatDoor
set_option maxHeartbeats 64000000
set_option maxRecDepth 100000
set_option linter.unusedVariables false
set_option linter.unusedSimpArgs false
set_option linter.unusedSectionVars false
open Go.RowKit
open Go.Proofs.Tryz
open Go renaming undef->I,Value->jd,World->jj,Calls->jr,TypeId->jB,setRow_other->jJ,wpOp_step->jK,DataW->jM,Oper->jO,maxLen->jP,setRow_heap->jW,wp_store_row->jZ,execOp->j5,wp_region_noPanic->j6,Program->ob,Ending->oj,below_setRow->ow,Operand->qb,wpList_plain->qc,MemPlace->qd
open _root_ renaming rfl->N,Int->je,List->ji,Nat->jl,absurd->jq,Array->jv,if_pos->jC,congrArg->jH,decide_eq_true->n0
open Go.Value renaming agg->ja,slice->jk,tuple->jw
open _root_.Option renaming some->jb,none->jm,some->pz,map_eq_some_iff->qP
open Go.RowKit renaming Hid->jc,Below->jo
open Go.Value renaming int->jf
open Go.IntKind renaming i64->jg
open _root_.Bool renaming true->jh,false->js
open Go.Obj renaming cells->jn
open Go.Proofs.Tryz renaming prog->jp
open Go.Ending renaming returned->jt
open _root_.Nat renaming lt_of_lt_of_le->ju,le_refl->jA,le_trans->jE,zero_le->jX,zero_add->qg,lt_irrefl->qh,add_mul->qk,le_of_eq->qo
open _root_.List renaming length_map->jy,size_toArray->jD,getElem?_eq_some_iff->jL,map_nil->jQ,mem_of_getElem?->jR,mem_cons->jT,getElem?_map->jU,getElem?_toArray->jV,length->jY,length_append->j0,getElem?_append_right->j1,mem_append->j4,map_cons->j7,flatMap_cons->j8,getElem?_append_left->j9,mem_nil_iff->nn,mem_singleton->o1,getElem?_eq_getElem->p6,map_map->qa,flatMap_nil->qe,append_nil->qf,take_length->qi,take_of_length_le->qj,length_take->ql,toList_toArray->qs,length_singleton->qt,mem_map_of_mem->qv,find?_append->qw,getElem?_take->qx,append_assoc->qy,map_toArray->qz,flatMap_append->qA,length_cons->qC,getElem?_cons_succ->qD,mem_toArray->qF,map_append->qL,take_append_of_le_length->qM,set_append_right->qO,getElem?_eq_none->qQ
open Go.Value renaming int->jz,agg->ms,cells->mz,okWide->qu,ownBlock->qB,tuple->qE,oneCell'->qN
open Go.World renaming alloc_heap_new->jF,size_alloc->o8,ownsRow_nil->qn
open Go.Proofs renaming intOf->jG
open Go.RowKit.Below renaming refl->jI
open _root_.Array renaming getElem?_eq_some_iff->jN,all_eq_true_iff_forall_mem->jS,length_toList->j3,getElem?_setIfInBounds_ne->qG,getElem?_toList->qK,getElem?_setIfInBounds_self_of_lt->qS
open Go.NoPanic renaming normal->nv
open Go.Proofs.Tryz renaming underlying26->qH,underlying25->qI,underlying226->qJ
variable{f:Grp}{b fid:LBy}{H:Type}{i:aM}{e:jd}{d fol:je}{j:ji CK}{a:ji Cmt}{h:ji ap}{w:jj}{x:jl}
section
set_option maxRecDepth 1000000
theorem wQ{x:jl}{r seed:LBy}{a:ji Bx}{e:ji Wl}(g:(et (aX f.tree h) d).map (eA f d h b seed)=a)(c:(dw d h).map (fC f d h b r seed)=e):
 mkC f d x h b r seed=mkF f d x h b r a e:=by
 rw[<-Nu];unfold mkC mk2 mk1 mkX pI vy;rw[g,c]
theorem Lh:aY 4 3=64:=by rw[m8];decide+kernel
theorem IP:aY 4 2=16:=by rw[m8];decide+kernel
theorem TC:cQ 1=⟨1,1,64,64,0⟩:=by
 have h:((aY 4 (1+2):jl):je)=64:=by rw[show 1+2=3 from N,Lh];rfl
 unfold cQ;rw[h];rfl
theorem Bt:cQ 0=⟨1,0,16,16,0⟩:=by
 have h:((aY 4 (0+2):jl):je)=16:=by rw[show 0+2=2 from N,IP];rfl
 unfold cQ;rw[h];rfl
theorem Pl{g':Grp}{r:LBy}{p:je×je}(a:f.folder=g'.folder)(g:f.epoch=g'.epoch)(c:f.last=g'.last):pi f d h b r p x=pi g' d h b r p x:=by
 have e:iY f d h b=iY g' d h b:=by unfold iY;rw[a,g,c]
 unfold pi;rw[e]
theorem Jf{g':Grp}{r seed:LBy}{y:ap}(g:f.folder=g'.folder)(a:f.epoch=g'.epoch)(c:f.last=g'.last):oR f d h b r seed y=oR g' d h b r seed y:=by
 have e:iY f d h b=iY g' d h b:=by unfold iY;rw[g,a,c]
 have i:dO f b r=dO g' b r:=by unfold dO;rw[a]
 unfold oR;rw[e,i]
theorem G7(g:Grp)(c:Cmt):(aC g c).folder=g.folder:=by unfold aC;dsimp only
theorem tx:bF=cq1:=by
 have h:bF=mkF (aI 3) 1 3 [cQ 1] (kz 1) (kz 1) [] []:=wQ (by rw[wP.1];rfl) (by rw[wF.1];rfl);rw[h,uF (g:=aI 3) (g':=gq1) N N N,TC,cm1]
theorem lE:gS1.folder=gq2.folder/\gS1.epoch=gq2.epoch/\gS1.last=gq2.last:=by
 have a:gS1.last=aH bF:=vV _ _;refine⟨G7 _ _,lZ.2.2,?_⟩;rw[a,tx,id1];rfl
theorem tj:bS=cq2:=by
 obtain⟨e,a⟩:=Bf;have b:tD (aX gS1.tree [cQ 0]) (512:je)=16:=by
  rw[a,IP];rfl
 have c:(et (aX gS1.tree [cQ 0]) 1).map (eA gS1 1 [cQ 0] (kz 2) (kz 2))=bx2:=by
  rw[wP.2.1,j7,jQ,Mn (x:=(1,512)) b,Kx,Pl lE.1 lE.2.1 lE.2.2,Bt,NK];rfl
 have d:(dw 1 [cQ 0]).map (fC gS1 1 [cQ 0] (kz 2) (kz 1) (kz 2))=wl2:=by
  rw[wF.2.1,j7,jQ,Tx,Jf lE.1 lE.2.1 lE.2.2,Bt,Jw];rfl
 have h:bS=mkF gS1 1 3 [cQ 0] (kz 2) (kz 1) bx2 wl2:=wQ c d;rw[h,uF lE.1 lE.2.1 lE.2.2,Bt,cm2]
theorem pN:cU.folder=gq3.folder/\cU.epoch=gq3.epoch/\cU.last=gq3.last:=by
 have a:cU.last=aH bS:=vV _ _;refine⟨(G7 _ _).trans lE.1,fy.2.2,?_⟩;rw[a,tj,id2];rfl
theorem uc:cS3=cq3:=by
 have h:cS3=mkF cU 0 2 [dM 1 5] (kz 3) (kz 1) [] []:=wQ (by rw[wP.2.2.1];rfl) (by rw[wF.2.2.1];rfl);rw[h,uF pN.1 pN.2.1 pN.2.2,show dM 1 5=⟨2,1,0,0,5⟩from N,cm3]
theorem ud:cM=cq4:=by
 have h:cM=mkF cU 1 3 [dM 0 5] (kz 4) (kz 1) [] []:=wQ (by rw[wP.2.2.2];rfl) (by rw[wF.2.2.2];rfl);rw[h,uF (g':=gq4) pN.1 pN.2.1 pN.2.2,show dM 0 5=⟨2,0,0,0,5⟩from N,cm4]
theorem oJ:dX 3 cS3 bS cM bF:=
 Jg (by rw[uc,tj,id3,id2];decide+kernel) (by rw[uc,ud,id3,id4];decide+kernel) (by rw[uc,tx,id3,id1];decide+kernel)
  (by rw[tj,ud,id2,id4];decide+kernel) (by rw[tj,tx,id2,id1];decide+kernel) (by rw[ud,tx,id4,id1];decide+kernel)
end
section
set_option maxRecDepth 1000000
instance(x:je):Decidable (IR x):=by unfold IR;infer_instance
theorem KP:fJ cq1:=by refine⟨?_,?_,?_,?_,?_,?_,?_⟩<;>decide+kernel
theorem Rw:fJ cq2:=by refine⟨?_,?_,?_,?_,?_,?_,?_⟩<;>decide+kernel
theorem J4:fJ cq3:=by refine⟨?_,?_,?_,?_,?_,?_,?_⟩<;>decide+kernel
theorem Ms:fJ cq4:=by refine⟨?_,?_,?_,?_,?_,?_,?_⟩<;>decide+kernel
theorem lC:cZ (aR bF)/\cZ (aR bS)/\cZ (aR cS3)/\cZ (aR cM):=
 ⟨by rw[tx];exact KP.encOk,by rw[tj];exact Rw.encOk,by rw[uc];exact J4.encOk,by rw[ud];exact Ms.encOk⟩
theorem Pb{g:Grp}{vm vt:jd}{d:jl}(j:d<512)(b:BitVec 8){a:jd}{x:ap}{W:jj}(l:bL W g vm vt)(n:aG (·<W.heap.size) W a 5 1 x.cells)(o:gJ W)(p:ia g (d:je) ((d+2:jl):je) [x]=0)
 (c:Cmt) (r:c=mkC g (d:je) (d+2) [x] (kz b) (kz 1) (kz b)) (f:gS g c) (s:cZ (aR c)):
 jr jp 13 #[ja (aB g vm vt).toArray,jf jg (d:je),v8 b,a] W λe w'=>∃q h i,e=jt (jw #[ja (aE c q).toArray,ja (aB (aC g c) h i).toArray,.bool jh])/\
  aW (λk=>W.heap.size<=k/\k<w'.heap.size) w' c q/\dz (λk=>W.heap.size<=k/\k<w'.heap.size) w' (aC g c) h i/\jo W W w':=by
 have B:=lU f.val;refine(RH g vm vt d j b a [x] W l (by rw[j8,qe,qf];exact n) o p c r (fQ.2 f) s Y Y ar).mono ?_;rintro e w' ⟨q,m,t,k,u,v,w,y,z⟩;exact⟨q,m,t,k,u,dz.of v w y,z⟩
structure SSt(w:jj)(BL:ji (jl×jv jd×jB))(CL:ji CP)(GL:ji (Grp×jd×jd))(x:jj):Prop where
 blk:∀e∈BL,x.heap[e.1]?=jb (jn e.2.1 e.2.2 (0,0))
 com:∀p∈CL,aW (·<x.heap.size) x p.1 p.2
 grp:∀p∈GL,bL x p.1 p.2.1 p.2.2
 tab:gJ x
 bel:jo w w x
section
variable {w x x':jj} {BL:ji (jl×jv jd×jB)} {CL:ji CP} {GL:ji (Grp×jd×jd)}
theorem SSt.below(h:SSt w BL CL GL x)(a:jo x x x'):SSt w BL CL GL x':=
 ⟨λe he=>av (h.blk e he) a,λp b=>(h.com p b).below a,λp b=>(h.grp p b).below a,h.tab.below a,h.bel.trans (a.mono h.bel.size)⟩
theorem SSt.block(h:SSt w BL CL GL x){b:jl}{a:jv jd}{t:jB}(c:x.heap[b]?=jb (jn a t (0,0))):SSt w ((b,a,t)::BL) CL GL x:=
 ⟨λe he=>(jT.1 he).elim (λd=>d▸c) (h.blk e),h.com,h.grp,h.tab,h.bel⟩
theorem SSt.made(h:SSt w BL CL GL x){c:Cmt}{q:CQ}{g:Grp}{vm vt:jd}{D:jl->Prop}(d:aW D x c q)(e:∀k,D k->k<x.heap.size)(f:bL x g vm vt):SSt w BL ((c,q)::CL) ((g,vm,vt)::GL) x:=
 ⟨h.blk,λp a=>(jT.1 a).elim (λb=>b▸d.mono e) (h.com p),λp a=>(jT.1 a).elim (λb=>b▸f) (h.grp p),h.tab,h.bel⟩
theorem SSt.start(a:gJ w):SSt w [] [] [] w:=⟨λe h=>(by cases h),λe h=>(by cases h),λe h=>(by cases h),a,jI _ _⟩
end
theorem uO{W:jj}{g k:jl}{a:jv jd}{e:jB}(h:W.heap[g]?=jb (jn a e (0,0)))(b:a.size=k):aG (·<W.heap.size) W (jk (jb ⟨g,0,jm⟩) 1 1) k 1 a.toList:=by
 refine⟨by rw[j3,b,Nat.one_mul],_,1,N,jA _,(λe=>by cases e),λ_=>⟨g,0,N,(jN.1 h).1,λj d c=>?_⟩⟩;rw[qg];exact ai h (ak c)
noncomputable def RCg:eL jp:=.of 42 62 5 40 (ja #[jf jg 0,jf jg 0,jf jg 0,jf jg 0,jf jg 0]) underlying42 af N L L L
def vN:jd:=jk jm 0 0
def AG3:jv jd:=(aB (aI 3) vN vN).toArray
theorem I8{a:Act}{o:jO}(b:o.op=.build 41 #[(0,.const (jf jg 3))])(W:jj):
 (j5 a.eval o).run jp W=.ok (.value (ja AG3)) W:=by
 simp only[j5,b]
 kernel_rfl
theorem Bv(w:jj)(f:je):bL w (aI f) vN vN:=
 ⟨⟨rfl,jm,0,rfl,jA _,λ_=>rfl,λh=>jq h (qh _)⟩,oG w,rfl⟩
end
theorem sP(p:Option Addr)(n c:jl)(w:jj):jr jp 56 #[jk p n c] w λe w'=>e=jt (.bool (decide (n<=10)))/\jo w w w':=by
 by_cases h:n<=10
 ·have b:=aw ((n:je)<=10)
  have a:=O (n0 h)
  go_enter func56,ntmps56
  go_wp2_with fail
  go_ret;exact⟨by rw[a];rfl,jI _ _⟩
 have b:=az ((n:je)<=10);have a:=O (decide_eq_false h)
 go_enter func56,ntmps56
 go_wp2_with fail
 go_ret;exact⟨by rw[a];rfl,jI _ _⟩
theorem Nk(c:Cmt)(q:CQ)(w:jj)(a:aW (·<w.heap.size) w c q)(X:c.box.length<=jP)(l4:c.wel.length<=jP):
 jr jp 20 #[ja (aE c q).toArray] w λe w'=>(∃b,e=jt (.bool b)/\(b=jh->tl c))/\jo w w w':=by
 have B:=dW.new w (q:=q) a.plen a.clen;have g:=ao w (jn (aE c q).toArray 48);obtain⟨C,D,H⟩:=a.chg.form;obtain⟨pp,cp,K⟩:=a.path.form;obtain⟨pb,cb,i⟩:∃p E,q.vb=jk p c.box.length E:=by obtain⟨us,h,-⟩:=a.box;exact h.form
 obtain⟨pw,cw,k⟩:∃p E,q.vw=jk p c.wel.length E:=by obtain⟨us,h,-⟩:=a.wel;exact h.form
 obtain⟨-,-,-,F,d,f,n,-,-⟩:=B.at;rw[H]at F;rw[K]at d;rw[i]at f;rw[k]at n;have YS:=O a.box;have Ya:=O a.wel;have a2:=O i;have a3:=O k;obtain⟨u,m⟩:=J c.chg.length;obtain⟨np,o⟩:=J c.path.length;obtain⟨r,v⟩:=J c.box.length;obtain⟨s,x⟩:=J c.wel.length;rw[<-m]at F;rw[<-o]at d;rw[<-v]at f X a2;rw[<-x]at n l4 a3;replace X:r<=9223372036854775807:=X;replace l4:s<=9223372036854775807:=l4;have a4:=O m;have a5:=O o;have Z3:=O v;have YB:=O x;obtain⟨b,y⟩:=J w.heap.size;obtain⟨a6,M⟩:=J ((aE c q).toArray);rw[<-M]at g F d f n⊢;rw[<-y]at F d f n;obtain⟨W,z⟩:=J (w.alloc (jn a6 48));rw[<-z]at g F d f n;have P:=O z;have Q:=O y;have t:=O g;clear B g a H K i k m o v x y M z
 go_enter func20,ntmps20
 go_upto_region 1 with fail
 rw[<-P,<-Q];clear P Q
 go_wp2_with fail
 go_loopw [3] (λi wr=>∃k:jl,i=jf jg k/\k<=r/\jc (∀x∈c.box.take k,x.body.length<=200)/\wr=W) (λi _=>r-(jG i).toNat)
 case atStart=>exact⟨0,N,jX _,O ar,N⟩
 obtain⟨k,rfl,hk,a,H⟩:=hrel;rw[H];clear H
 by_cases aa:k<r
 case pos=>
  have ad:=aw ((k:je)<(r:je));have au:=aw (k<r);obtain⟨x,v,K⟩:=dN (l:=c.box) (j:=k) (by rw[<-Z3];exact aa);obtain⟨us,M,P⟩:=YS.out;obtain⟨ba,Q,R⟩:=P.at (i:=k) (b:=x.body) (by rw[jU,v];rfl);obtain⟨g,o,E,S,z⟩:=oE M (λ_ _=>rfl) v Q;rw[a2]at S;injection S with e1 e2 e3
  subst e1;subst e3;obtain⟨px,cx,rfl⟩:=R.form;have YK:=O K;obtain⟨m,B⟩:=J x.body.length;rw[<-B]at z;have d3:W.cell? ⟨g,o+k*4+3,jm⟩=jb (jk px m cx):=aD (z 3 _ N) t;have HM:=O B;clear z M P Q R v K e2 B
  by_cases U:200<m
  case pos=>
   have ax:=aw ((200:je)<(m:je));have ay:=aw (200<m);clear U
   go_wp2_with fail
   go_ret;exact⟨⟨js,N,λh=>by cases h⟩,t⟩
  have ax:=az ((200:je)<(m:je));have ay:=az (200<m);have a1:jc (∀y∈c.box.take (k+1),y.body.length<=200):=O (λy V=>by
   rw[YK]at V
   rcases j4.1 V with h|h
   ·exact a y h
   obtain rfl:=o1.1 h;have:=HM.out
   omega)
  clear U a
  go_wp2_with fail
  exact⟨⟨k+1,by go_num,by omega,a1,by trivial⟩,by simp only[jG];omega⟩
 have ad:=az ((k:je)<(r:je));have au:=az (k<r);obtain rfl:r=k:=Y;have Yf:jc (∀x∈c.box,x.body.length<=200):=O (by have h:=a.out;rwa [Z3,qi]at h);clear a
 go_wp2_with fail
 go_loopw [4] (λi wr=>∃k:jl,i=jf jg k/\k<=s/\jc (∀x∈c.wel.take k,x.body.length<=200)/\wr=W) (λi _=>s-(jG i).toNat)
 case atStart=>exact⟨0,N,jX _,O ar,N⟩
 obtain⟨k,rfl,hk,a,H⟩:=hrel;rw[H];clear H
 by_cases aa:k<s
 case pos=>
  have ad:=aw ((k:je)<(s:je));have au:=aw (k<s);obtain⟨x,v,K⟩:=dN (l:=c.wel) (j:=k) (by rw[<-YB];exact aa);obtain⟨us,M,P⟩:=Ya.out;obtain⟨ba,Q,R⟩:=P.at (i:=k) (b:=x.body) (by rw[jU,v];rfl);obtain⟨g,o,E,S,z⟩:=oE M (λ_ _=>rfl) v Q;rw[a3]at S;injection S with e1 e2 e3
  subst e1;subst e3;obtain⟨px,cx,rfl⟩:=R.form;have YK:=O K;obtain⟨m,B⟩:=J x.body.length;rw[<-B]at z;have d3:W.cell? ⟨g,o+k*3+2,jm⟩=jb (jk px m cx):=aD (z 2 _ N) t;have HM:=O B;clear z M P Q R v K e2 B
  by_cases U:200<m
  case pos=>
   have ax:=aw ((200:je)<(m:je));have ay:=aw (200<m);clear U
   go_wp2_with fail
   go_ret;exact⟨⟨js,N,λh=>by cases h⟩,t⟩
  have ax:=az ((200:je)<(m:je));have ay:=az (200<m);have a1:jc (∀y∈c.wel.take (k+1),y.body.length<=200):=O (λy V=>by
   rw[YK]at V
   rcases j4.1 V with h|h
   ·exact a y h
   obtain rfl:=o1.1 h;have:=HM.out
   omega)
  clear U a
  go_wp2_with fail
  exact⟨⟨k+1,by go_num,by omega,a1,by trivial⟩,by simp only[jG];omega⟩
 have ad:=az ((k:je)<(s:je));have au:=az (k<s);obtain rfl:s=k:=Y;have v:jc (∀x∈c.wel,x.body.length<=200):=O (by have h:=a.out;rwa [YB,qi]at h);clear a
 by_cases m:u<=10
 case neg=>
  have i:jc (decide (u<=10)=js):=O (decide_eq_false m);clear m
  go_wp2_with fail
  refine(sP C u D _).mono ?_;rintro e o ⟨rfl,a⟩;have g:=ah t a;clear a;rw[i]
  go_wp2_with fail
  go_ret;exact⟨⟨js,N,λh=>by cases h⟩,g⟩
 have i:jc (decide (u<=10)=jh):=O (n0 m);have x:=O m;clear m
 by_cases m:np<=12
 case neg=>
  have y:=az ((np:je)<=12);clear m
  go_wp2_with fail
  refine(sP C u D _).mono ?_;rintro e o ⟨rfl,a⟩;have g:=ah t a;rw[i];replace d:=aD d a;replace f:=aD f a;replace n:=aD n a;clear a
  go_wp2_with fail
  go_ret;exact⟨⟨js,N,λh=>by cases h⟩,g⟩
 have y:=aw ((np:je)<=12);have z:=O m;clear m
 by_cases m:r<=40
 case neg=>
  have B:=az ((r:je)<=40);clear m
  go_wp2_with fail
  refine(sP C u D _).mono ?_;rintro e o ⟨rfl,a⟩;have g:=ah t a;rw[i];replace d:=aD d a;replace f:=aD f a;replace n:=aD n a;clear a
  go_wp2_with fail
  go_ret;exact⟨⟨js,N,λh=>by cases h⟩,g⟩
 have B:=aw ((r:je)<=40);have H:=O m;clear m
 by_cases m:s<=10
 case neg=>
  have K:=az ((s:je)<=10);clear m
  go_wp2_with fail
  refine(sP C u D _).mono ?_;rintro e o ⟨rfl,a⟩;have g:=ah t a;rw[i];replace d:=aD d a;replace f:=aD f a;replace n:=aD n a;clear a
  go_wp2_with fail
  go_ret;exact⟨⟨js,N,λh=>by cases h⟩,g⟩
 have K:=aw ((s:je)<=10);have M:=O m;clear m
 go_wp2_with fail
 refine(sP C u D _).mono ?_;rintro e o ⟨rfl,a⟩;have g:=ah t a;rw[i];replace d:=aD d a;replace f:=aD f a;replace n:=aD n a;clear a
 go_wp2_with fail
 go_ret;exact⟨⟨jh,N,λ_=>⟨Yf,v,by rw[<-a4];exact x,by rw[<-a5];exact z,by rw[<-Z3];exact H,by rw[<-YB];exact M⟩⟩,g⟩
theorem T6{l:ji aK}{x:aK}(h:dn l d=jm)(a:(x.dev==d)=js):dn (l++[x]) d=jm:=by
 unfold dn at*;rw[qw,h];simp[a]
theorem LM{l:ji aK}{k:aK}(h:dn (l.take x) d=jm)(a:l.take (x+1)=l.take x++[k])(b:k.dev=d):dn l d=jb k:=by
 have e:dn (l.take (x+1)) d=jb k:=by unfold dn at*;rw[a,qw,h];simp[b]
 unfold dn at*;rw[<-List.take_append_drop (x+1) l,qw,e];rfl
theorem Db(l:ji aK)(d:je):cG l d=(dn l d).isSome:=by
 unfold cG dn;rw[Bool.eq_iff_iff,List.find?_isSome,List.any_eq_true]
theorem Lw(a:Grp)(vm vt:jd)(d:je)(w:jj)(h:bL w a vm vt)(q:a.mem.length<=jP):
 jr jp 11 #[ja (aB a vm vt).toArray,jf jg d] w λe w'=>e=jt (.bool (cG a.mem d))/\jo w w w':=by
 have i:=dG.new w (vm:=vm) (vt:=vt) h.llen;have b:=ao w (jn (aB a vm vt).toArray 41);have k:=h.mem;obtain⟨p,c,rfl,-,-⟩:=h.mem.form;obtain⟨-,-,m,-⟩:=i.at;have v:=O (k.cells);obtain⟨E,o⟩:=J ((aB a (jk p a.mem.length c) vt).toArray);rw[<-o]at m b⊢;obtain⟨n,f⟩:=J a.mem.length;rw[<-f]at m q v;replace q:n<=9223372036854775807:=q;have x:=O f;obtain⟨r,g⟩:=J (w.alloc (jn E 41));rw[<-g]at m b;have t:=O g;have s:=O b;clear i b h o f k g
 go_enter func11,ntmps11
 go_upto_region 1 with fail
 rw[<-t];obtain⟨b,f⟩:=J w.heap.size;rw[<-f]at m⊢;clear t f
 go_wp2_with fail
 go_loopw [5] (λi wr=>∃k:jl,i=jf jg k/\k<=n/\jc (dn (a.mem.take k) d=jm)/\wr=r) (λi _=>n-(jG i).toNat)
 case atStart=>exact⟨0,N,jX _,O N,N⟩
 obtain⟨k,rfl,V,t,f⟩:=hrel;rw[f];clear f
 by_cases F:k<n
 ·have H:=aw ((k:je)<(n:je))
  have K:=aw (k<n);obtain⟨-,-,u⟩:=v.out;obtain⟨g,o,rfl,z⟩:=u Y;obtain⟨y,B,C⟩:=dN (l:=a.mem) (j:=k) (by rw[<-x];exact F);have f:=λi M P=>aD (z k y B i M P) s
  have Q:r.cell? ⟨g,o+k*3,jm⟩=jb (jf jg y.dev):=f 0 _ N;have R:r.cell? ⟨g,o+k*3+1,jm⟩=jb (jf jg y.since):=f 1 _ N;obtain⟨md,S,U⟩:=y;dsimp only at Q R;have D:=O C;clear z C B u f
  by_cases f:md=d
  case neg=>
   have u:(md==d)=js:=ak f;have z:jc (dn (a.mem.take (k+1)) d=jm):=O (by rw[D];exact T6 t u);have B:decide (md=d)=js:=ak f;clear f
   go_wp2_with fail
   exact⟨⟨k+1,by go_num,by omega,z,by trivial⟩,by simp only[jG];omega⟩
  have u:jc (dn a.mem d=jb ⟨md,S,U⟩):=O (LM t D f);subst f
  go_wp2_with fail
  go_ret;exact⟨by rw[Db,u];rfl,s⟩
 have H:=az ((k:je)<(n:je));have K:=az (k<n);obtain rfl:k=n:=Y;have u:jc (dn a.mem d=jm):=O (by
  have h:=t.out
  rwa [x,qi]at h)
 go_wp2_with fail
 go_ret;exact⟨by rw[Db,u];rfl,s⟩
theorem Ud(s t:ji je)(u v:jd)(w:jj)(E:df w u s)(F:df w v t)(H:s.length<=1000000)(K:t.length<=1000000):
 jr jp 18 #[u,v] w λe w'=>e=jt (.bool (decide (s=t)))/\jo w w w':=by
 obtain⟨p,c,rfl,M,d⟩:=E;obtain⟨V,W,rfl,P,f⟩:=F;have Q:=O d;have R:=O f;obtain⟨n,a⟩:=J s.length;obtain⟨m,b⟩:=J t.length;have j:=O a;have l:=O b;rw[<-a]at M H⊢;rw[<-b]at P K⊢;clear d f a b
 go_enter func18,ntmps18
 by_cases q:n=m
 case neg=>
  have a:((n:je)==(m:je))=js:=by simp;omega
  have hd2:=az ((n:je)=(m:je));have hd3:decide (n=m)=js:=ak q;have d:jc (decide (s=t)=js):=O (decide_eq_false (λh=>q (by rw[j,l,h])));clear q
  go_wp2_with fail
  go_ret;exact⟨by rw[d];rfl,jI _ _⟩
 subst q
 go_wp2_with fail
 go_loopw [5] (λi wr=>∃k:jl,i=jf jg k/\k<=n/\jc (s.take k=t.take k)/\jc (jo w w wr)) (λi _=>n-(jG i).toNat)
 case atStart=>exact⟨0,N,jX _,O N,O (jI _ _)⟩
 obtain⟨k,rfl,X,r,f⟩:=hrel
 by_cases x:k<n
 ·have S:=aw ((k:je)<(n:je))
  have U:=aw (k<n);obtain⟨g,o,rfl,i⟩:=Q.out (by rw[<-j];omega);obtain⟨g2,o2,rfl,y⟩:=R.out (by rw[<-l];omega);obtain⟨a,aa,-,z⟩:=IW i (by rw[<-j];exact x) f;obtain⟨b,ad,-,B⟩:=IW y (by rw[<-l];exact x) f;have C:=O z;have D:=O B;clear i y z B
  by_cases i:a=b
  case neg=>
   have d:jc (decide (s=t)=js):=O (decide_eq_false (zU r C D i));have y:(a==b)=js:=ak i;have z:decide (a=b)=js:=ak i;clear i
   go_upto_region 6 with fail
   go_quiet (fail)
   go_wp2_with fail
   go_ret;exact⟨by rw[d];rfl,f.trans ⟨rfl,rfl,rfl,jA _,λ_ _=>rfl⟩⟩
  subst i;have y:=O (GM r C D N)
  go_upto_region 6 with fail
  go_quiet (fail)
  go_wp2_with fail
  exact⟨⟨k+1,by go_num,by omega,y,O (f.trans ⟨rfl,rfl,rfl,jA _,λ_ _=>rfl⟩)⟩,by simp only[jG];omega⟩
 have S:=az ((k:je)<(n:je));have U:=az (k<n);obtain rfl:k=n:=Y;have d:jc (decide (s=t)=jh):=O (n0 (by
  have h:=r.out;rw[qj (by rw[<-j];exact jA _),qj (by rw[<-l];exact jA _)]at h;exact h))
 go_wp2_with fail
 go_ret;exact⟨by rw[d];rfl,f⟩

theorem Rl(w:jj)(o:Obj):jo w w (w.alloc o):=(jI _ w).alloc (jA _) o
def tg(w:jj)(b:jl)(t:ji (je×je)):Prop:=∃a,w.cell? ⟨b,0,jm⟩=jb a/\bJ w a t
theorem tg.below{w':jj}{b:jl}{t:ji (je×je)}(h:tg w b t)(a:jo w w w'):tg w' b t:=by
 obtain⟨d,c,e⟩:=h;exact⟨d,cH c (a.block _ (eK c)),e.below a⟩
theorem tg.new{a:jd}{t:ji (je×je)}(h:bJ w a t):tg (w.alloc (jn #[a] 39)) w.heap.size t:=
 ⟨a,by unfold World.cell?;rw[jF];rfl,h.below (Rl w _)⟩
theorem Sq(t:ji (je×je))(a v:jd)(w:jj)(c:bJ w a t)(d:bJ w v t)(b:t.length<=1000000):
 jr jp 46 #[ja #[a],ja #[v]] w λe w'=>e=jt (.bool jh)/\jo w w w':=by
 have h:=Lt t t a v w c d b b;rw[n0 N]at h;exact h
theorem Bd(l:LBy)(a:l.length=32)(z:jj):(Op.equalIn 10000 23 (ja (l.map v8).toArray) (ja (l.map v8).toArray)).run jp z=.ok jh z:=by
 have h:=pC l l a a z;rw[show decide (l=l)=jh from n0 N]at h;exact h
theorem Tt(l:ji aK)(a v:jd)(w:jj)(b:EM.At w a l)(d:EM.At w v l)(D:l.length<=1000000):
 jr jp 45 #[a,v] w λe w'=>e=jt (.bool jh)/\jo w w w':=by
 have g:=b;have h:=d;obtain⟨p,c,rfl,-,-⟩:=b.form;obtain⟨U,s,rfl,-,-⟩:=d.form;have t:=O (g.cells);have u:=O (h.cells);obtain⟨n,f⟩:=J l.length;have E:=O f;rw[<-f]at D t u⊢;clear b d g h f
 go_enter func45,ntmps45
 go_wp2_with fail
 go_loopw [5] (λi wr=>∃k:jl,i=jf jg k/\k<=n/\jc (jo w w wr)) (λi _=>n-(jG i).toNat)
 case atStart=>exact⟨0,N,jX _,O (jI _ _)⟩
 obtain⟨k,rfl,V,b⟩:=hrel
 by_cases F:k<n
 ·have H:=aw ((k:je)<(n:je))
  have K:=aw (k<n);obtain⟨-,-,x⟩:=t.out;obtain⟨g,o,rfl,z⟩:=x Y;obtain⟨-,-,B⟩:=u.out;obtain⟨h,m,rfl,C⟩:=B Y;obtain⟨y,q,-⟩:=dN (l:=l) (j:=k) (by rw[<-E];exact F);have d:=λi a r=>aD (z k y q i a r) b
  have f:=λi a r=>aD (C k y q i a r) b
  have M:wr.cell? ⟨g,o+k*3,jm⟩=jb (jf jg y.dev):=d 0 _ N;have P:wr.cell? ⟨g,o+k*3+1,jm⟩=jb (jf jg y.since):=d 1 _ N;have s:wr.cell? ⟨g,o+k*3+2,jm⟩=jb (jf jg y.ver):=d 2 _ N;have Q:wr.cell? ⟨h,m+k*3,jm⟩=jb (jf jg y.dev):=f 0 _ N;have R:wr.cell? ⟨h,m+k*3+1,jm⟩=jb (jf jg y.since):=f 1 _ N;have S:wr.cell? ⟨h,m+k*3+2,jm⟩=jb (jf jg y.ver):=f 2 _ N;obtain⟨md,W,X⟩:=y;dsimp only at M P s Q R S;clear z C q x B d f
  go_upto_region 6 with fail
  go_quiet (fail)
  go_wp2_with fail
  exact⟨⟨k+1,by go_num,by omega,O (b.trans ⟨rfl,rfl,rfl,jA _,λ_ _=>rfl⟩)⟩,by simp only[jG];omega⟩
 have H:=az ((k:je)<(n:je));have K:=az (k<n)
 go_wp2_with fail
 go_ret;exact⟨N,b⟩
theorem AB(g:Grp)(d f vm vt:jd)(w:jj)(a:bL w g d f)(k:bL w g vm vt)(F:g.mem.length<=1000000)(H:g.tree.length<=1000000):
 jr jp 10 #[ja (aB g d f).toArray,ja (aB g vm vt).toArray] w λe w'=>e=jt (.bool jh)/\jo w w w':=by
 have c:=dG.new w (vm:=d) (vt:=f) a.llen;have j:=ao w (jn (aB g d f).toArray 41);obtain⟨l,h⟩:=J (w.alloc (jn (aB g d f).toArray 41));rw[<-h]at c j;have r:l.heap.size=w.heap.size+1:=by rw[h,o8]
 have i:=dG.new l (vm:=vm) (vt:=vt) a.llen;have m:=ao l (jn (aB g vm vt).toArray 41);obtain⟨s,n⟩:=J (l.alloc (jn (aB g vm vt).toArray 41));rw[<-n]at i m;replace c:=c.below m;have b:=O (j.trans (m.mono j.size));rw[r]at i;obtain⟨K,M,P,t⟩:=c.at;obtain⟨Q,R,S,u⟩:=i.at;have U:=O c.last;have V:=O i.last;have v:jc ((g.last.map v8).length=VD.n):=O (by rw[jy,a.llen];rfl);obtain⟨x,p⟩:=J ((g.last.map v8).toArray);have W:∀z,(Op.equalIn 10000 23 (ja x) (ja x)).run jp z=.ok jh z:=by
  rw[p];exact λz=>Bd g.last a.llen z
 have y:=O p;have o:=O a;have q:=O k;obtain⟨X,B⟩:=J ((aB g d f).toArray);obtain⟨D,C⟩:=J ((aB g vm vt).toArray);rw[<-B]at h⊢;rw[<-C]at n⊢;have E:jc (s=(w.alloc (jn X 41)).alloc (jn D 41)):=O (by rw[n,h]);clear a k c i j m B C h n r p;obtain⟨n,r,B,C,k2,rfl,rfl⟩:∃p c h n' i,d=jk p g.mem.length c/\f=jk h n' i:=by
  obtain⟨p,c,a,-⟩:=o.mem.form;obtain⟨h,n',i,k⟩:=gP o.tree;exact⟨p,c,h,n',i,a,k⟩
 obtain⟨p3,k3,p4,n4,k4,rfl,rfl⟩:∃p c h n' i,vm=jk p g.mem.length c/\vt=jk h n' i:=by
  obtain⟨p,c,a,-⟩:=q.mem.form;obtain⟨h,n',i,k⟩:=gP q.tree;exact⟨p,c,h,n',i,a,k⟩
 go_enter func10,ntmps10
 go_upto_region 1 with fail
 rw[<-E];clear E
 go_wp2_with (first|(refine VD.load aj N N (g.last.map v8) v U ?_;rw[<-y];refine G ?_)|(refine VD.load aj N N (g.last.map v8) v V ?_;rw[<-y];refine G ?_))
 refine(Tt g.mem _ _ s (o.mem.below b) (q.mem.below b) F).mono ?_;rintro e m ⟨rfl,j⟩;replace t:=aD t j;replace u:=aD u j;replace b:=ah b j;clear j K M P Q R S W
 go_wp2_with fail
 refine(Sq g.tree _ _ m (o.tree.below b) (q.tree.below b) H).mono ?_;rintro e E ⟨rfl,j⟩;replace b:=ah b j;clear j
 go_wp2_with fail
 go_ret;exact⟨N,b⟩
theorem Ru(a:ji CP)(v:jd)(w:jj)(d:cA w v a)(g:∀p∈a,p.1.box.length<=jP/\p.1.wel.length<=jP)(q:a.length<=jP):
 jr jp 5 #[v] w λe w'=>(∃b,e=jt (.bool b)/\(b=jh->a.length<=7/\∀p∈a,tl p.1))/\jo w w w':=by
 have z:=O d;have R:=O g;obtain⟨p,c,rfl⟩:=d.form;obtain⟨n,f⟩:=J a.length;have B:=O f;rw[<-f]at q z⊢;replace q:n<=9223372036854775807:=q;clear d g f
 by_cases D:n<=7
 case neg=>
  have E:=aw ((7:je)<(n:je));have F:=aw (7<n);clear D
  go_enter func5,ntmps5
  go_wp2_with fail
  go_ret;exact⟨⟨js,N,λh=>by cases h⟩,jI _ _⟩
 have aa:=az ((7:je)<(n:je));have ad:=az (7<n)
 go_enter func5,ntmps5
 go_wp2_with fail
 go_loopw [3] (λi wr=>∃k:jl,i=jf jg k/\k<=n/\jc (∀x∈a.take k,tl x.1)/\jc (jo w w wr)) (λi _=>n-(jG i).toNat)
 case atStart=>exact⟨0,N,jX _,O ar,O (jI _ _)⟩
 obtain⟨k,rfl,hk,H,d⟩:=hrel
 by_cases S:k<n
 ·have E:=aw ((k:je)<(n:je))
  have F:=aw (k<n);obtain⟨y,f,K⟩:=dN (l:=a) (j:=k) (by rw[<-B];exact S);have r:=jR f;have s:=z.below d;obtain⟨g,o,c',U,-,-,-,t⟩:=s.elem f;injection U with V W X
  subst V;subst X;have u:=O (s.all y r);have M:=O (R y r);obtain⟨i,m⟩:=y;dsimp only at t;have Vb:=O t;have Vq:jc ((aE i m).length=VC.n):=O (dl _ _ u.plen u.clen);have Vu:=O K;obtain⟨C,P⟩:=J ((aE i m).toArray);have Q:=O P;clear f K r s W t P
  go_wp2_with (first|(refine VC.load aj N N (aE i m) Vq Vb ?_;rw[<-Q];refine G ?_))
  have f:=Nk i m wr u M.1 M.2;rw[<-Q]at f;refine f.mono ?_;rintro e K ⟨⟨b,rfl,r⟩,s⟩;have t:=O r;replace d:=ah d s;clear s r f
  rcases b with _|_
  ·go_wp2_with fail
   go_ret;exact⟨⟨js,N,λh=>by cases h⟩,d⟩
  go_wp2_with fail
  exact⟨⟨k+1,by go_num,by omega,O (by
   rw[Vu];intro x f
   rcases j4.1 f with f|f
   ·exact H x f
   rw[o1]at f;rw[f];first|exact t N|exact t trivial),d⟩,by simp only[jG];omega⟩
 have E:=az ((k:je)<(n:je));have F:=az (k<n);obtain rfl:k=n:=Y
 go_wp2_with fail
 go_ret;exact⟨⟨jh,N,λ_=>⟨D,by have h:=H.out;rwa [B,qi]at h⟩⟩,d⟩
abbrev GP:=Grp×jd×jd
def Sm(x:GP):ji jd:=aB x.1 x.2.1 x.2.2
structure oU(w:jj)(v:jd)(l:ji GP):Prop where
 row:aG (·<w.heap.size) w v 36 l.length (l.flatMap Sm)
 all:∀x∈l,bL w x.1 x.2.1 x.2.2
theorem oU.below{w':jj}{v:jd}{l:ji GP}(h:oU w v l)(a:jo w w w'):oU w' v l:=
 ⟨(h.row.keep λg b=>a.block g b).mono λg b=>ju b a.size,λp c=>(h.all p c).below a⟩
theorem oU.form{l:ji GP}(h:oU w e l):∃p c,e=jk p l.length c:=h.row.form
theorem oU.elem{l:ji GP}(h:oU w e l){i:jl}{x:GP}(a:l[i]?=jb x):
 ∃g o c,e=jk (jb ⟨g,o,jm⟩) l.length c/\g<w.heap.size/\l.length<=c/\i<l.length/\w.rangeAt g (o+i*36) (aB x.1 x.2.1 x.2.2):=h.row.rowM N (λx b=>eH (h.all x b).llen) a
section
variable{e:jB}{xs:ji jd}{w:jj}{sz:jl}
structure eG(e:jB)(sz:jl)(w:jj)(g:jl)(v:jd)(n:jl)(xs:ji jd):Prop where
 len:xs.length=n*sz
 ex:∃o a b,v=jk (jb ⟨g,o,jm⟩) n a/\w.heap[g]?=jb (jn b e (0,0))/\n<=a/\a<=jP/\o+a*sz<=b.size/\∀(j:jl) c,xs[j]?=jb c->b[o+j]?=jb c
theorem eG.of_own{B n:jl}{v:jd}(h:w.ownsRow B e sz v n xs)(l:0<n):∃g,v.ownBlock=jb g/\eG e sz w g v n xs:=by
 rcases h.2 with⟨-,m⟩|⟨g,b,c,rfl,o,d,f,i,p,k⟩
 ·omega
 refine⟨g,N,h.1,0,b,c,N,d,f,i,by omega,λj q a=>?_⟩;rw[<-k,qx]at a
 split at a
 ·rw[qg];simpa using a
 cases a
theorem eG.row{g n:jl}{v:jd}(h:eG e sz w g v n xs):cE w v sz n xs:=by
 obtain⟨a,o,b,l,rfl,c,d,m,p,f⟩:=h;exact⟨a,_,b,N,d,(λe=>by cases e),λ_=>⟨g,o,N,λj i k=>ai c (f j i k)⟩⟩
theorem eG.lt{B b d:jl}{f:jd}{a:ji jd}(h:eG e b w B f d a):B<w.heap.size:=by
 obtain⟨_,_,_,_,_,xs,_⟩:=h;exact(jN.1 xs).1
theorem eG.keep{w':jj}{g n:jl}{v:jd}(h:eG e sz w g v n xs)(a:w'.heap[g]?=w.heap[g]?):eG e sz w' g v n xs:=by
 obtain⟨b,o,c,d,rfl,f,i⟩:=h;exact⟨b,o,c,d,N,a.trans f,i⟩
theorem eG.cells{g n:jl}{v:jd}(h:eG e sz w g v n xs):∃c,w.heap[g]?=jb (jn c e (0,0)):=by
 obtain⟨_,_,_,a,_,b,_⟩:=h;exact⟨a,b⟩
section
variable {P:ob}
theorem eG.tail{g n:jl}{t:jB}{v:jd}{ys:ji jd}(h:eG e sz w g v (n+1) (ys++xs))(k:ys.length=sz)(b:P.underlying t=jb (.slice e))(s:∀w,(sizeOf e).run P w=.ok sz w):
 ∃l,eG e sz w g l n xs/\∀W,(Instr.sliceAt t v (jb (jf jg 1)) jm jm).run P W=.ok l W:=by
 obtain⟨u,o,c,m,rfl,p,z,B,x,y⟩:=h;have he:P.elem t=e:=by simp[Program.elem,b]
 have d:xs.length=n*sz:=by rw[j0,k,qk]at u;omega
 have q:∀W,(Instr.sliceAt t (jk (jb ⟨g,o,jm⟩) (n+1) c) (jb (jf jg 1)) jm jm).run P W=.ok (jk (jb (if c=1 then⟨g,o,jm⟩else⟨g,o+sz,jm⟩)) n (c-1)) W:=λW=>by
  rw[run_sliceAt_slice W t _ _ _ _ (by rw[he];exact b),run_slice_l W t _ (n+1) c (by rw[he];exact b) .i64 _ Y Y,he];simp[s,Result.andThen,sliced,Addr.add]
  by_cases h:c=1
  ·subst h;simp
  have a:c-1≠0:=Y;simp[h,a]
 by_cases f:c=1
 ·refine⟨_,⟨d,o,c-1,m,by rw[jC f],p,by omega,by omega,by subst f;omega,λj r i=>?_⟩,q⟩
  have a:=(jL.1 i).1;have:n=0:=Y;rw[d,this,Nat.zero_mul]at a;omega
 refine⟨_,⟨d,o+sz,c-1,m,by rw[if_neg f],p,by omega,by omega,?_,λj r i=>?_⟩,q⟩
 ·have a:c=(c-1)+1:=Y
  rw[a,qk]at x;omega
 have a:=y (sz+j) r (by rw[j1 Y,k,Nat.add_sub_cancel_left];exact i);rw[Nat.add_assoc];exact a
theorem QY(w:jj)(t l e:jB)(i:TypeInfo)(n:P.underlying t=jb (.slice e))(p:P.info? e=jb i)
 (g o d k:jl) (f:jv jd) (q:w.heap[g]?=jb (jn f e (0,0)))
 (a:Addr) (m c:jl) (b:ji jd) (r:b.length=m*i.size) (s:∀j h,b[j]?=jb h->w.cell? (a.add j)=jb h) (j:∀h∈b,h.oneCell'=jh)
 (u:d+m<=k) (v:o+d*i.size+b.length<=f.size):
 (Builtin.append_ #[t,t] l #[jk (jb ⟨g,o,jm⟩) d k,jk (jb a) m c]).run P w=
  .ok (jk (jb ⟨g,o,jm⟩) (d+m) k) (w.setRow g (f.toList.take (o+d*i.size)++b++f.toList.drop (o+d*i.size+b.length)).toArray):=by
 have x:=run_firstCells_some (P:=P) w i.size m a m c b r s;have h:=run_storeCells_at P g (o+d*i.size) e b 0 f w q (ak v) j;simp only[Nat.add_zero]at h;simp[Builtin.append_,run_underlying n,sizeOf,typeInfo,p,Builtin.lenOf,u,x,Addr.add_lit,h]
theorem Lo(w:jj)(t x e:jB)(i:TypeInfo)(z:jd)(sz y:jl)(B:P.underlying t=jb (.slice e))(C:P.info? e=jb i)(V:i.zero=jb z)
 (Q:i.size=sz) (W:i.bytes=y) (X:z.cells.size=sz) (aa:0<sz) {g n:jl} {v:jd} {xs:ji jd} (h:eG e sz w g v n xs) {a:jd} {m:jl} {ys:ji jd} (hu:cE w a sz m ys) (h1:∀a∈ys,a.oneCell'=jh)
 (ad:n+m<=jP) (au:(n+m)*y<=140737488355328):
 ∃s w' g',(Builtin.append_ #[t,t] x #[v,a]).run P w=.ok s w'/\eG e sz w' g' s (n+m) (xs++ys)/\w.grownBy w' (jb g)/\(g'=g\/w.heap.size<=g'):=by
 obtain⟨D,o,d,q,rfl,f,R,S,ax,E⟩:=h;obtain⟨u,p,c,rfl,hc,hp,ay⟩:=hu
 rcases p with _|F
 ·obtain rfl:=hp N
  obtain rfl:m=0:=Y;obtain rfl:ys=[]:=List.eq_nil_of_length_eq_zero Y;refine⟨_,w,g,?_,⟨by rw[qf];exact D,o,d,q,N,f,R,S,ax,λj a b=>E j a (ak b)⟩,World.grownBy.refl _ _,.inl N⟩;simp[Builtin.append_,run_underlying B,sizeOf,typeInfo,C,Builtin.lenOf,Builtin.firstCells,R,storeCells]
 have U:∀(j:jl) a,ys[j]?=jb a->w.cell? (F.add j)=jb a:=by
  intro j a b;have l:=(jL.1 b).1;obtain⟨g,o,e,f⟩:=ay (by
   rcases Nat.eq_zero_or_pos m with k|k
   ·rw[u,k]at l;omega
   exact k)
  obtain rfl:=pz.inj e;rw[uS];exact f j a b
 have a1:(xs++ys).length=(n+m)*sz:=by rw[j0,D,u,qk]
 by_cases H:n+m<=d
 ·subst Q
  have a2:o+n*i.size+ys.length<=q.size:=by
   have r:(n+m)*i.size<=d*i.size:=Nat.mul_le_mul_right _ H;rw[qk]at r;omega
  have K:=QY w t x e i B C g o n d q f F m c ys u U h1 H a2;refine⟨_,_,g,K,⟨a1,o,d,_,N,jW _ _ _ _ _ _ f,H,S,?_,λj a b=>?_⟩,⟨N,N,N,by rw[setRow_size];exact jA _,λk _ M=>jJ _ _ _ _ λe=>M (by rw[e])⟩,.inl N⟩
  ·rw[jD,j0,j0,ql,List.length_drop,j3]
   omega
  rw[jV]
  by_cases a3:j<xs.length
  ·rw[qy,j9 (by rw[ql,j3];omega),qx,jC Y,qK]
   exact E j a (by rwa [j9 a3]at b)
  rw[j1 Y]at b;have r:=(jL.1 b).1;have l:q.toList.length=q.size:=j3;rw[qy,j1 (by rw[ql,j3];omega),ql,j3,j9 Y];rw[<-b]
  congr 1
  omega
 obtain⟨s,w',K,r,l⟩:=run_append_arg_grows (P:=P) w t x e i z sz y B C V Q W X aa ⟨g,o,jm⟩ n d xs D (λj a b=>by rw[uS];exact ai f (E j a b)) F m c ys u U Y ad au;obtain⟨g',b,h4⟩:=eG.of_own r Y;exact⟨s,w',g',K,h4,⟨l.os,l.tape,l.output,l.size,λk M _=>l.block k M ar⟩,.inr (r.lt g' b).1⟩
theorem eL.wpList_appendQ(R:eL P){d:jv jO}{e:Exit->Act->jj->Prop}{f:ji jO}{o:jO}{a:Act}{w:jj}(j:o.guard=jm)(s x:qb)(k:o.op=.call {callee:=.builtin .append,args:=#[s,x],argTypes:=#[R.t,R.t]})
 {g n:jl} {v:jd} {xs:ji jd} (l:a.eval s=v) (h:eG R.e R.k w g v n xs) {b:jd} {m:jl} {ys:ji jd} (p:a.eval x=b) (q:cE w b R.k m ys) (r:∀b∈ys,b.oneCell'=jh) (t:n+m<=1000000)
 (u:∀c w' g',eG R.e R.k w' g' c (n+m) (xs++ys)->w.grownBy w' (jb g)->(g'=g\/w.heap.size<=g')->wpList P d e f (a.put o.dst c) w'):wpList P d e (o::f) a w:=by
 refine qc j λK y=>?_
 obtain⟨c,w',g',z,i,B,C⟩:=Lo (P:=P) w R.t o.type R.e R.i R.z R.k R.b R.ht R.hi R.hz R.hs R.hb R.hzs R.h0 h q r (by unfold jP;omega) (by
  have:=R.hbb;have i:(n+m)*R.b<=1000000*8000:=Nat.mul_le_mul t this
  omega)
 unfold Oper.wp j5;simp only[k,resolve,invoke,builtin,Sem.run_bind,Sem.run_pure,Result.andThen_ok,qz,j7,jQ,l,p,z];exact y _ _ (u c w' g' i B C)
end
end
theorem QA(h:eS d b a=jb i):fh a (aI d) i:=by
 obtain⟨l,fid,fol⟩:=tw h;exact⟨l,(nS l).par,λj e=>by rw[fid];exact fol j e⟩
noncomputable def pS(fol:je)(fid:LBy)(l:ji Cmt):ji aM:=match eS fol fid l with|none=>[]|some c=>sJ l c
def ixs(a:ji CK):ji jd:=a.map λk=>jz .i64 (k.ix:jl)
def gcs(a:ji CK):ji jd:=a.flatMap λk=>aB k.g k.vm k.vt
structure ASt(d:ji CP)(fol:je)(fid:LBy)(c:jl)(w W:jj)(e:aM)(a:ji CK)(k:jl)(u1 u2:jd)(g:jl)(q:jd):Prop where
 seq:a.map CK.cand=eC (d.map (·.1)) e k
 own1:W.ownsRow c RI.e RI.k u1 k (ixs (a.take k))
 own2:W.ownsRow c RG.e RG.k u2 k (gcs (a.take k))
 que:eG RK.e RK.k W g q (a.length-k) ((a.drop k).flatMap aL)
 qlow:c<=g
 all:∀x∈a,KD (λb=>gb x b/\b<W.heap.size) d W x
 off:∀x∈a,∀b,gb x b->u1.ownBlock≠jb b/\u2.ownBlock≠jb b/\g≠b
 bel:jo c w W
 le:k<=a.length
theorem ASt.below{e:ji CP}{d k g:jl}{W f:jj}{u1 u2 q:jd}(h:ASt e fol fid d w W i j k u1 u2 g q)(a:jo W W f)(l:d<=W.heap.size):ASt e fol fid d w f i j k u1 u2 g q:=
 ⟨h.seq,cL h.own1 a,cL h.own2 a,h.que.keep (a.block g h.que.lt),h.qlow,λx m=>((h.all x m).keep λb c=>a.block b c.2).mono λb c=>⟨c.1,ju c.2 a.size⟩,h.off,h.bel.trans (a.mono l),h.le⟩
theorem Pp(a:ji CK)(x:CK):ixs (a++[x])=ixs a++[jz .i64 (x.ix:jl)]:=by unfold ixs;rw[qL];rfl
theorem Qz(a:ji CK)(x:CK):gcs (a++[x])=gcs a++aB x.g x.vm x.vt:=by unfold gcs;rw[qA,List.flatMap_singleton]
theorem DK{y:CK}(h:j[x]?=jb y):j.take (x+1)=j.take x++[y]:=by
 rw[List.take_succ_eq_append_getElem (jL.1 h).1,(jL.1 h).2]
theorem Ee{y:CK}(h:j[x]?=jb y):j.drop x=y::j.drop (x+1):=by
 rw[List.drop_eq_getElem_cons (jL.1 h).1,(jL.1 h).2]
theorem ASt.step{u:ji CP}{v k g g':jl}{W p j r n:jj}{Q:aM}{l Ks:ji CK}{x:CK}{u1 u2 q y B R y1 y2:jd}(h:ASt u fol fid v w W Q l k u1 u2 g q)(C:l[k]?=jb x)(a1:v<=W.heap.size)(o:jo W W p)
 (Zk:y1.cells.toList=[jf jg (x.ix:jl)]) (aa:y2.cells.toList=aB x.g x.vm x.vt) (d:zP RI RG v p j u1 u2 y B (k+1) (k+1) (ixs (l.take k)++y1.cells.toList) (gcs (l.take k)++y2.cells.toList))
 (s:jo j j r) (S:∀z∈Ks,KD (λb=>j.heap.size<=b/\b<r.heap.size) u r z) (hK:Ks.map CK.cand=fg x.g (u.map (·.1))) (m:r.grownBy n (jb g)) (t:g'=g\/r.heap.size<=g')
 (E:eG RK.e RK.k n g' R (l.length-(k+1)+Ks.length) ((l.drop (k+1)).flatMap aL++Ks.flatMap aL)):ASt u fol fid v w n Q (l++Ks) (k+1) y B g' R:=by
 have hk:=(jL.1 C).1;obtain⟨U,F⟩:=h.que.cells;have ad:=h.que.lt;have V:=o.size;have au:=s.size;have ax:p.heap[g]?=jb (jn U RK.e (0,0)):=av F o;have e1:u1.ownBlock≠jb g:=cP h.own1 F L;have e2:u2.ownBlock≠jb g:=cP h.own2 F L;have X:j.heap[g]?=jb (jn U RK.e (0,0)):=(d.heap g (ju ad V) e1 e2).trans ax;have a2:p.heap.size<=j.heap.size:=d.bel.size;have d1:y.ownBlock≠jb g:=cP d.own1 X L;have d2:B.ownBlock≠jb g:=cP d.own2 X L;have s4:∀b,b<j.heap.size->b≠g->n.heap[b]?=j.heap[b]?:=λb a H=>(m.block b (ju a au) λe=>H (by injection e)).trans (s.block b a)
 have s0:∀b,b<W.heap.size->b≠g->u1.ownBlock≠jb b->u2.ownBlock≠jb b->n.heap[b]?=W.heap[b]?:=λb a H i h2=>(s4 b Y H).trans ((d.heap b (ju a V) i h2).trans (o.block b a))
 have ay:W.heap.size<=n.heap.size:=by have:=m.size;omega
 have a3:∀b,y.ownBlock=jb b->b=g'->False:=λb a e=>by
  rcases t with rfl|D
  ·exact d1 (e▸a)
  have:=(d.own1.lt b a).2;omega
 have a4:∀b,B.ownBlock=jb b->b=g'->False:=λb a e=>by
  rcases t with rfl|D
  ·exact d2 (e▸a)
  have:=(d.own2.lt b a).2;omega
 refine⟨?_,?_,?_,?_,?_,?_,?_,?_,?_⟩
 ·rw[qL,h.seq,eC,pZ (c:=x.cand) (by rw[<-h.seq,jU,C];rfl),hK];rfl
 ·rw[qM Y,DK C,Pp,<-Zk]
  exact iD d.own1 λb a=>s4 b (d.own1.lt b a).2 λe=>d1 (e▸a)
 ·rw[qM Y,DK C,Qz,<-aa]
  exact iD d.own2 λb a=>s4 b (d.own2.lt b a).2 λe=>d2 (e▸a)
 ·rw[List.drop_append_of_le_length Y,qA,j0,show l.length+Ks.length-(k+1)=l.length-(k+1)+Ks.length by omega]
  exact E
 ·rcases t with rfl|D
  ·exact h.qlow
  omega
 ·intro z f
  rcases j4.1 f with f|f
  ·refine((h.all z f).keep λb a=>?_).mono λb a=>⟨a.1,by omega⟩
   obtain⟨K,M,P⟩:=h.off z f b a.1;exact s0 b a.2 (Ne.symm P) K M
  have i:=(S z f).keep λb a=>m.block b a.2 λe=>by injection e with e;omega
  refine(KD.own i).mono λb a=>⟨a.1,by have:=m.size;have:=a.2;omega⟩
 ·intro z f b a
  rcases j4.1 f with f|f
  ·obtain⟨K,M,P⟩:=h.off z f b a
   have a5:=(rG (h.all z f) a).2;refine⟨λe=>?_,λe=>?_,λe=>?_⟩
   ·rcases d.lie1 with i|i
    ·exact K (i▸e)
    have:=i b e;omega
   ·rcases d.lie2 with i|i
    ·exact M (i▸e)
    have:=i b e;omega
   rcases t with rfl|D
   ·exact P e
   omega
  have i:=rG (S z f) a;refine⟨λe=>?_,λe=>?_,λe=>?_⟩
  ·have:=(d.own1.lt b e).2;omega
  ·have:=(d.own2.lt b e).2;omega
  have:=(jN.1 (h.que.cells).choose_spec).1
  rcases t with rfl|D
  ·omega
  subst e;obtain⟨-,-,-,-,-,h2,-⟩:=E;omega
 ·have f:jo 0 p j:=d.bel
  refine h.bel.trans ⟨m.os.trans (s.os.trans (f.os.trans o.os)),m.tape.trans (s.tape.trans (f.tape.trans o.tape)),m.output.trans (s.output.trans (f.output.trans o.output)),ay,λb a=>?_⟩;have E:=h.qlow;exact s0 b Y Y (λe=>by have:=(h.own1.lt b e).1;omega) (λe=>by have:=(h.own2.lt b e).1;omega)
 rw[j0];omega
theorem Cg{D:jl->Prop}(e:jB)(sz:jl):aG D w (jk jm 0 0) sz 0 []:=aG.of_own (qn w 0 e sz) λg a=>by simp[qB]at a
def Ml:jd->jl
 | .slice _ n _=>n
 |_=>0
theorem Kf(d:ji CP)(v:jd)(fol:je)(fid:LBy)(h:fid.length=32)(w:jj)(a:cA w v d)(l:∀p∈d,cZ (aR p.1))(m:bH w)(o:d.length<=1000):
 jr jp 17 #[ja (c8 fol fid).toArray,v] w λe w'=>∃(u1 u2:jd) (Ks:ji CK),e=jt (jw #[u1,u2])/\Ks.map CK.cand=pS fol fid (d.map (·.1))/\aG (λb=>w.heap.size<=b/\b<w'.heap.size) w' u1 1 Ks.length (ixs Ks)/\
  aG (λb=>w.heap.size<=b/\b<w'.heap.size) w' u2 36 Ks.length (gcs Ks)/\(∀k∈Ks,KD (λb=>b<w'.heap.size) d w' k)/\jo w w w':=by
 obtain⟨p1,k1,rfl⟩:=a.form;obtain⟨FA,f⟩:=J ((c8 fol fid).toArray);have ZH:jc (FA.size=VF.n):=O (by rw[f,jD];unfold c8;rw[qC,jy,h];rfl);rw[<-f];obtain⟨x0,M,q,r,j,g⟩:=dh w FA VF.t;have s:=O (pV d _ x0 (a.below g) l (m.below g) o);have t:=O q;have HM:=O r;have c:=O g;have HL:=O a;have HE:=O l;have HT:=O m;have HN:=O o;have bc:=O f;have bd:=O h;clear q r g a l m o f h
 go_enter func17,ntmps17
 go_wp2_with fail
 rw[<-HM];change jr _ _ _ (w.alloc (jn FA VF.t)) _;rw[<-t];refine s.mono ?_;rintro e x1 ⟨v2,v3,rfl,g,r⟩;have m:=O g;replace j:=ae j r;replace c:=ah c r;obtain⟨F,f⟩:=J (#[Value.slice p1 d.length k1,v2,v3]);have a1:jc (F.size=VP.n):=O (by rw[f];rfl);have Yf:jc (F.all (·.oneCell')=jh):=O (by
  obtain⟨a,b,h⟩:=g.ids.form;obtain⟨a',o,l⟩:=g.at_.form;rw[f,h,l];simp[qN])
 have a4:=O f;rw[<-f];clear g r s t f
 go_upto_region 2 with(first|(refine VP.made N N (G ?_))|(refine VP.first N N N F N a1 Yf (G ?_)))
 obtain⟨x2,H,s,a,f,r⟩:=dh x1 F VP.t;rw[<-s,<-a];replace j:=ae j r;replace c:=ah c r;have YG:jc (∀W,jo x2 x2 W->iw (·<W.heap.size) W (jk p1 d.length k1) v2 v3 d):=O λW hW=>by
  have l:=r.trans (hW.mono r.size);exact((m.mono λg o=>o.2).below l)
 have a5:jc (∀W,jo x2 x2 W->bH W):=O λW hW=>HT.below (c.trans (hW.mono c.size))
 have l:=Fs d (jk p1 d.length k1) v2 v3 fol fid bd x2 (YG _ (jI _ _)) HE (a5 _ (jI _ _)) HN;rw[<-bc,<-a4]at l;replace l:=O l;have bf:jc (H<x2.heap.size):=O (jN.1 f).1;clear s a r m
 go_wp2_with (first|(refine VP.loadA aj N N F a1 f (G ?_))|(refine VF.loadA aj N N FA ZH j (G ?_)))
 refine l.mono ?_;rintro e x3 ⟨C,o,rfl,q,t,x,y,K⟩;have Yq:=O q;have bg:=O t;have m:=O x;have u:=O y;have S:=O K;replace f:=ae f K;clear q t x y K l j
 go_upto_region 3 with(first|(refine VK.made N N (G ?_))|(refine VK.first N N N C N Yq bg (G ?_)))
 obtain⟨q,bh,s,a,R,j⟩:=dh x3 C VK.t;rw[<-s,<-a];replace f:=ae f j;have t:jc (jo x2 x2 q):=ah S j;have x:jc (jo w w q):=O (c.trans (t.mono c.size));have bN:jc (bh<q.heap.size):=O (jN.1 R).1
 rcases o with _|_
 ·have l:=O (u N)
  clear s a j m u
  go_wp2_with fail
  go_ret2;refine⟨_,_,[],N,by unfold pS;rw[l];rfl,Cg 0 _,Cg 0 _,(λk hk=>by cases hk),x⟩
 obtain⟨D,y,z,l⟩:=m N;have B:jc (KD (λb=>x2.heap.size<=b/\b<q.heap.size) d q D):=O ((z.keep λb a=>j.block b a.2).mono λb a=>⟨a.1,ju a.2 j.size⟩);have bi:=O y;have Yo:=O l;have VO:=O (QA l);clear s a j m u y z l
 go_upto_block 0 with(first|(refine VK.loadA aj N N C Yq R (G ?_))|(refine qc N λ_ Q=>RK.wp_build (.tmp 21) N (ja C) N Yq (Q _ _ ?_);clear Q;refine G ?_))
 rw[show(ms C).cells=C from N];obtain⟨U,g0,s,a,V,m⟩:=dh q C RK.e;rw[<-s,<-a];obtain⟨l,X⟩:∃l:ji Cmt,l=d.map (·.1):=⟨_,N⟩;have Vx:=O X;have ad:jc (KIn q D):=O ((YG _ t.out).list|>B.kin);have au:jc (C.toList=aL D):=O (by rw[bi]);have UY:jc (ASt d fol fid q.heap.size U U D.cand [D] 0 (jk jm 0 0) (jk jm 0 0) g0 (jk (jb ⟨g0,0,jm⟩) 1 1)):=O (by
  refine⟨N,qn _ _ _ _,qn _ _ _ _,⟨?_,0,1,C,N,V,jA _,by unfold jP;omega,by rw[Yq];exact jA _,λj u hj=>?_⟩,qo a.symm,λz y=>?_,λz y b aa=>?_,jI _ _,jX _⟩
  ·show(aL D++[]).length=1*143
   rw[qf,ad.len]
  ·rw[qg,<-qK,au]
   simpa using hj
  ·rw[o1]at y;subst y
   exact(KD.own (B.keep λb a=>m.block b a.2)).mono λb a=>⟨a.1,ju a.2.2 m.size⟩
  rw[o1]at y;subst y;have h1:=rG B aa;exact⟨by simp[qB],by simp[qB],by omega⟩)
 have UF:jc (jo x2 x2 U):=ah t m;have a6:jc (jo w w U):=ah x m;have aa:jc (U.heap.size=q.heap.size+1/\w.heap.size<=q.heap.size/\x2.heap.size<=q.heap.size):=O ⟨by rw[s];exact o8 _ _,x.size,t.size⟩;have bk:jc (U.heap[H]?=jb (jn F VP.t (0,0))):=ae f m;clear s a m X V f R ad au t x B S c
 go_wp2_with fail
 go_loopw [4,5,9] (λf t x wr=>∃(j:ji CK) (k g o c m:jl) (q1 q2:Option Addr) (d1 d2:jl),f=jk q1 k d1/\t=jk q2 k d2/\x=jk (jb ⟨g,o,jm⟩) m c/\jc (m=j.length-k)/\jc (ASt d fol fid q.heap.size U wr D.cand j k f t g x)) (λf _ _ _=>d.length-Ml f)
 case atStart=>exact⟨[D],0,g0,0,1,1,jm,jm,0,0,N,N,N,O N,UY⟩
 obtain⟨j,k,g,o,c,m,q1,q2,d1,d2,rfl,rfl,rfl,ad,f⟩:=hrel;clear UY;have ZX:jc (j.length<=d.length):=O (by
  have h:=(BI VO k).len VO;rw[<-f.seq,jy,jy]at h;exact h)
 by_cases a2:0<m
 case neg=>
  have hd:=az (0<(m:je));have UL:=az (0<m);have V:jc (j.length=k):=O (by have:=ad.out;have:=f.le;omega)
  go_wp2_with fail
  go_ret2;have t:w.heap.size<=q.heap.size:=aa.2.1;have x:j.take k=j:=qj (qo V);refine⟨_,_,j,N,?_,?_,?_,λz y=>(f.all z y).mono λb a=>a.2,a6.trans (f.bel.mono t)⟩
  ·unfold pS
   rw[Yo];have h:=f.seq;have h2:(eC (d.map (·.1)) D.cand k).length<=k:=by rw[<-h,jy,V];exact jA _
   rw[h];exact(Nm VO h2 (by rw[jy,<-V];exact ZX)).symm
  ·have h:=f.own1
   rw[x]at h;rw[V];exact aG.of_own h λb a=>⟨jE t (h.lt b a).1,(h.lt b a).2⟩
  have h:=f.own2;rw[x]at h;rw[V];exact aG.of_own h λb a=>⟨jE t (h.lt b a).1,(h.lt b a).2⟩
 have hd:=aw (0<(m:je));have UL:=aw (0<m);obtain⟨x,au⟩:∃x,j[k]?=jb x:=⟨_,p6 (aJ ad)⟩;have Vg:=jR au;have ax:jc (cA wr (jk p1 d.length k1) d):=O (HL.below (a6.trans (f.bel.mono aa.2.1)));have B:=(f.all x Vg).kin ax;have a3:jc ((aL x).length=VK.n):=O B.len;have Vb:jc (wr.rangeAt g o (aL x)):=O λt u ht=>by
  obtain⟨-,p,c',S,-,-,h3⟩:=f.que.row;injection S with S e2 e3
  obtain⟨g',o',R,h4⟩:=h3 (aJ ad);rw[<-S]at R;injection R with R
  injection R with R X
  rw[R,X];exact h4 t u (by rw[Ee au,j8,j9 (jL.1 ht).1];exact ht)
 obtain⟨X,p⟩:=J ((aL x).toArray);have HX:=O p;have bl:jc (X.size=VK.n):=O (by rw[p,jD];exact a3);have U7:jc (X.all (·.oneCell')=jh):=O (by rw[p,jS];exact λu S=>B.ones u (ak S));have bm:jc (X[0]?=jb (jf jg (x.ix:jl))):=O (by rw[p];simpa using(mM B).1);have Wn:jc (∀z:jj,∀b,z.heap[b]?=jb (jn X VK.t (0,0))->z.rangeAt b 107 (aB x.g x.vm x.vt)):=O λz b y t u ht=>ai y (by
  rw[p,jV];have h:=nD B (1+t);rw[<-Nat.add_assoc,Nat.add_comm 1 t,qD]at h;exact h.trans ht)
 have Wi:jc ((aB x.g x.vm x.vt).length=VG.n):=O (eH B.leads.llen);have Vv:jc (∀u∈aB x.g x.vm x.vt,u.oneCell'=jh):=O (mc B.leads);have ba:jc (x.g.mem.length<=900000/\x.g.tree.length<=600000):=O (by
  have hi:=BI VO k;obtain⟨gx,R,-⟩:=hi.at VO (i:=k) (c:=x.cand) (by rw[<-f.seq,jU,au];rfl);have h:=lU (gY (nS R.ok));rw[<-R.ok.leads]at h;have h1:x.g.mem.length<=512:=h.1;have h2:x.g.tree.length<=1023:=h.2;exact⟨by omega,by omega⟩)
 obtain⟨GA,R⟩:=J ((aB x.g x.vm x.vt).toArray);have WT:=O R;have Yr:=O au;clear p R au B Vg ax
 go_upto_region 9 with(first|(refine VK.load aj N N (aL x) a3 Vb ?_;rw[<-HX];refine G ?_)|(refine VK.made N N (G ?_))|(refine VK.first N N N X N bl U7 (G ?_)))
 obtain⟨y1,bx,s,a,WC,r⟩:=dh wr X VK.t;rw[<-s,<-a];have au:=bV y1;obtain⟨y2,ax⟩:=J y1.drew;rw[<-ax]at au;have R:jo wr wr y2:=r.trans (au.mono r.size);have p:=O R;have B:=av WC au;have R1:=cL f.own1 R;have R2:=cL f.own2 R;have ay:jc (q.heap.size<=wr.heap.size):=O (by have:=f.bel.size;have:=aa.1;omega);have bn:q.heap.size<=y2.heap.size:=jE ay R.size;have bb:jc (k<=1000000):=O (by have:=f.le;have:=ZX.out;have:=HN.out;omega);refine j6 ?_;refine fP (λW'=>W'.heap[bx]?=jb (jn X VK.t (0,0))) 10 (.t 0 (.t 1 (.t 2 (.t 5 (.t 6 (.t 7 (rU id (.o 10 (.o 11 .done))))))))) af af af af L (λ_ _ _ _ h=>h) (by rw[<-ax];exact B) ?_;rw[<-ax];clear s a r au ax R;iterate 2 refine co ?_
 (refine cJ (v:=?_) N aj (λW' r=>?_) ?_;rotate_left;(have s:=ai (i:=0) r bm;clear r;go_simp;with_reducible rfl);refine G ?_)
 iterate 2 refine co ?_
 (refine cJ (v:=ja GA) N aj (λW' r=>by rw[WT];exact eF _ _ VG.t _ N _ _ N _ VG.d (Wn W' _ r) VG.hu VG.hd (by rw[Wi];exact VG.hi)) ?_;refine G ?_)
 refine Ae RI RG (T0:=id) (E:=id) (r1:=34) (r2:=35) (rb:=39) (r3:=40) (s1:=33) (s2:=38) (t1:=31) (t2:=36) af (λ_ _ _ _ h=>h) af af
  rfl rfl rfl rfl rfl rfl rfl rfl rfl rfl rfl rfl rfl rfl rfl rfl (show 34<49 by decide) (show 39<49 by decide) L L L L L L
  (λa' v=>rfl) (λa'=>rfl) (λa'=>rfl) (λa'=>rfl) (λa' w' R h r=>r)
  (x1:=jf jg (x.ix:jl)) (x2:=ja GA) (u1:=jk q1 k d1) (u2:=jk q2 k d2) rfl rfl rfl rfl rfl (by rw[WT];exact Wi) (by simp[mz,qN]) (λu S=>Vv u (by rw[WT]at S;simpa [mz]using S)) R1 R2 (AO R1 R2 L) bb bb bn ?_ ?_
 ·intro w' hk r
  exact(hk _ (jN.1 B).1 (cP R1 B L) (cP R2 B L)).trans B
 rintro z1 z2 bO bT s R;obtain⟨bo,bp,rfl⟩:=cK R.own1;obtain⟨bq,br,rfl⟩:=cK R.own2;have bs:jc (s.heap[bx]?=jb (jn X VK.t (0,0))):=O ((R.heap _ (jN.1 B).1 (cP R1 B L) (cP R2 B L)).trans B);have r:=O R;clear R B R1 R2 WC;refine G ?_;refine nC N L af (λB Q=>?_);go_simp;refine Q _ _ ?_;clear Q;refine G ?_;refine nC N L af (λB Q=>?_);go_simp;refine Q _ _ ?_;clear Q;refine G ?_;refine fc ?_;have Vo:jc (jo x2 x2 s):=O (by
  have B:=r.bel;refine UF.trans ((f.bel.mono aa.2.2).trans ⟨B.os.trans p.os,B.tape.trans p.tape,B.output.trans p.output,jE p.size B.size,λb a=>?_⟩);have h1:=aa.2.2;have h2:=ay.out;have h3:=p.size;exact(r.heap b Y (λe=>by have:=(f.own1.lt b e).1;omega) (λe=>by have:=(f.own2.lt b e).1;omega)).trans (p.block b Y))
 have bu:jc (s.heap[H]?=jb (jn F VP.t (0,0))):=O (by
  have h1:=aa.2.2;have h2:=ay.out;have h3:=p.size;have h4:=bf.out;exact(r.heap H Y (λe=>by have:=(f.own1.lt H e).1;omega) (λe=>by have:=(f.own2.lt H e).1;omega)).trans ((p.block H Y).trans ((f.bel.block H Y).trans bk)))
 have bv:=O (Wn s bx bs);have bw:jc (bL s x.g x.vm x.vt):=O (by
  have h:=f.all x (jR Yr);refine(h.keep λb a=>?_).grp.grp;obtain⟨B,Q,-⟩:=f.off x (jR Yr) b a.1;exact(r.heap b (ju a.2 p.size) B Q).trans (p.block b a.2))
 have Q:=EN d (jk p1 d.length k1) v2 v3 x.g x.vm x.vt s (YG _ Vo.out) bw HE (a5 _ Vo.out) HN ba.1 ba.2;rw[<-WT,<-a4]at Q;replace Q:=O Q
 go_wp2_with (first|(refine VP.loadA aj N N F a1 bu (G ?_))|(refine VG.load aj N N (aB x.g x.vm x.vt) Wi bv ?_;rw[<-WT];refine G ?_))
 refine Q.mono ?_;rintro e A3 ⟨vq,Ks,rfl,R,au,K⟩;have V:=O R;have bA:=O au;have bB:=O K;have bC:jc (eG RK.e RK.k A3 g (jk (jb ⟨g,o,jm⟩) m c) (j.length-k) ((j.drop k).flatMap aL)):=O (by
  have B:=f.que;obtain⟨cg,ax⟩:=B.cells;have a2:=B.lt;refine B.keep ((K.block g ?_).trans ((r.heap g (ju a2 p.size) (cP f.own1 ax L) (cP f.own2 ax L)).trans (p.block g a2)));have:=r.bel.size;have:=p.size;omega)
 have bI:jc (cE A3 vq 143 Ks.length (Ks.flatMap aL)):=O R.row.row;have Ym:jc (∀u∈Ks.flatMap aL,u.oneCell'=jh):=O (by
  intro u S;obtain⟨z,y,S⟩:=List.mem_flatMap.1 S;exact((R.all z y).kin (((YG _ Vo.out).list).below K)).ones u S)
 have Yv:jc (j.length-k+Ks.length<=1000000):=O (by
  have h1:=jH jY au;have h2:(fg x.g (d.map (·.1))).length<=(bW (d.map (·.1)) (d.map (·.1)).length).length:=by
   unfold fg;rw[List.length_mergeSort];exact List.length_filterMap_le _ _
  have h3:=rV (d.map (·.1)) (d.map (·.1)).length;rw[jy]at h1 h2 h3;have:=HN.out;have:=ZX.out
  omega)
 clear R au K Q
 go_upto_region 7 with(first|(refine RK.wpList_appendQ N (.tmp 41) (.tmp 45) N N bC N bI Ym Yv ?_;intro v' A4 g' B K Q;refine G ?_))
 obtain⟨Zp,R,S⟩:=eG.tail (P:=jp) (t:=127) (sz:=143) (n:=j.length-(k+1)+Ks.length) (ys:=aL x) (xs:=(j.drop (k+1)).flatMap aL++Ks.flatMap aL) (by
  have h:=B;rw[Ee Yr,j8,qy,show j.length-k+Ks.length=j.length-(k+1)+Ks.length+1 by have:=ad.out;omega]at h;exact h) a3 RK.ht RK.size
 have h:=O (f.step (y1:=jf jg (x.ix:jl)) (y2:=ja GA) Yr ay p N (by rw[WT];rfl) r bB V.all bA K Q R);obtain⟨-,o',c',-,au,-⟩:=B;obtain⟨-,bK,bM,-,ax,-⟩:=R;rw[au]at S⊢;rw[ax]at S h;clear K Q au ax
 go_wp2_with fail
 refine⟨⟨j++Ks,k+1,g',bK,bM,_,bo,bq,bp,br,N,N,N,O ?_,h⟩,?_⟩
 ·rw[j0];have:=ad.out;omega
 have:=ad.out;have:=ZX.out;show d.length-(k+1)<d.length-k;omega
theorem AQ(q:ji CP)(v:jd)(g:Grp)(vm vt:jd)(w:jj)(b:cA w v q)(h:bL w g vm vt)(k:∀p∈q,cZ (aR p.1))(l:bH w)(m:q.length<=1000)(o:g.mem.length<=900000)(r:g.tree.length<=600000)(s:∀p∈q,p.1.chg.length<=1000000):
 jr jp 8 #[ja (aB g vm vt).toArray,v] w λe w'=>e=jt (jw #[jf jg ((dH g (q.map (·.1))).elim 0 λc=>(c.ix:je)),.bool (dH g (q.map (·.1))).isSome])/\jo w w w':=by
 obtain⟨p1,k1,rfl⟩:=b.form;obtain⟨y,a⟩:=J ((aB g vm vt).toArray);have Yx:=O a;have aa:jc (y.size=VG.n):=O (by rw[a,jD,eH h.llen];rfl);rw[<-a];obtain⟨M,j⟩:=J w.heap.size;obtain⟨x0,n⟩:=J (w.alloc (jn y 41));have f:jc (x0.heap[M]?=jb (jn y VG.t (0,0))):=O (by rw[n,j];exact jF _ _);have d:jc (jo w w x0):=O (by rw[n];exact ao _ _);have K:=O b;have HG:=O h;have P:=O k;have Q:=O l;have R:=O m;have Wi:=O o;have Wx:=O r;have Vy:=O s;have HM:=O j;have p:=O n;clear a j n b h k l m o r s
 go_enter func8,ntmps8
 go_upto_region 1 with fail
 rw[<-p,<-HM];clear p;refine j6 ?_;refine fP (λb=>b.heap[M]?=jb (jn y VG.t (0,0))) 10
  (.t 0 (.t 2 (.w 1 7 (.w 3 7 (.t 4 (.t 5 (.t 6 (.o 7 (.o 8 (.t 9 .done)))))) (.o 3 (.t 4 (.t 5 (.t 6 (.o 8 (.t 9 .done))))))) (.o 1 (.o 3 (.t 4 (.t 5 (.t 6 (.o 8 (.t 9 .done)))))))))) af af af af L (λ_ _ _ _ h=>h) f ?_
 have a:=bV x0;obtain⟨x1,r⟩:=J x0.drew;rw[<-r]at a⊢;replace d:=ah d a;replace f:=ae f a;clear r a;refine co ?_
 (refine cJ (v:=ja y) N aj (λb j=>dc VG.hu VG.hd (by rw[aa];exact VG.hi) N N j) ?_;refine G ?_)
 refine Bg ?_ ?_
 ·refine cV N (λx j=>?_)
  go_simp;refine(pV q _ x1 (K.below d) P (Q.below d) R).mono ?_;rintro e x2 ⟨v2,v3,rfl,S,a⟩;have F:=O (S.mono (E:=(·<x2.heap.size)) λb o=>o.2);replace d:=ah d a;replace f:=ae f a;refine j _ _ f.out λ_=>?_
  clear j S a;refine G ?_;refine Bg ?_ ?_
  ·refine cV N (λx j=>?_)
   go_simp;have n:=uf q _ v2 v3 g vm vt x2 F (HG.below d) P (Q.below d) R Wi Wx Vy;rw[<-Yx]at n;refine n.mono ?_;rintro e H ⟨wk,rfl,z,s,a⟩;replace d:=ah d a;replace f:=ae f a;have t:=O (sH (wk:=wk) λk U=>(z k U).kin (K.below d));have V:=O s;have W:jc ((dm wk)[0]?=jb (jf jg ((dH g (q.map (·.1))).elim 0 λc=>(c.ix:je)))):=O (by rw[<-s];cases wk<;>rfl);refine j _ _ f.out λ_=>?_
   clear j n z s a;refine G ?_;iterate 3 refine co ?_
   refine cV N (λx j=>?_);rw[jC aj];refine gM VK.t N VK.Z VK.hal ?_;have B:=O d.size;obtain⟨p,l,r,o,m,a⟩:=dh H VK.Z VK.t;rw[<-r,<-o];replace d:=ah d a;replace f:=ae f a;have X:jc (w.heap.size<=l):=O (by rw[o];exact B);refine j _ _ f.out λ_=>?_
   clear j r o a B;refine G ?_;refine cV N (λx j=>?_);rw[jC aj];refine jZ VK.t _ _ N l (dm wk) N N VK.t VK.Z m.out (by rw[t.1];exact VK.hi) (VK.hZ.trans t.1.symm) t.2 ?_;have C:jc ((p.setRow l (dm wk)).heap[l]?=jb (jn (dm wk) VK.t (0,0))):=O (jW _ _ _ _ _ _ m.out);have D:jc (jo w w (p.setRow l (dm wk))):=O (iR d X _);have u:(p.setRow l (dm wk)).heap[M]?=jb (jn y VG.t (0,0)):=(jJ _ _ _ _ (λe=>by have h:=m.out;rw[<-e,f]at h;injection h with h;injection h with _ h;exact jq h L)).trans f;generalize p.setRow l (dm wk)=x9 at C D u⊢;refine j _ _ u λ_=>?_
   clear j u;refine G ?_;refine co ?_;refine fc ?_;have c0:=ai (i:=0) C W
   go_wp2_with fail
   go_ret2;exact⟨yT (jH (λb=>qE #[_,.bool b]) (by rw[<-V];cases wk<;>rfl)),D⟩
  refine cV N (λx j=>?_);rw[jC aj];refine gM VK.t N VK.Z VK.hal ?_;have B:=O d.size;obtain⟨H,l,r,o,m,a⟩:=dh x2 VK.Z VK.t;rw[<-r,<-o];replace d:=ah d a;replace f:=ae f a;replace F:=O (F.below a);have X:jc (w.heap.size<=l):=O (by rw[o];exact B);refine j _ _ f.out λ_=>?_
  clear j r o a B;refine G ?_;refine cV N (λx j=>?_);go_simp;have n:=uf q _ v2 v3 g vm vt H F (HG.below d) P (Q.below d) R Wi Wx Vy;rw[<-Yx]at n;refine n.mono ?_;rintro e p ⟨wk,rfl,z,s,a⟩;replace d:=ah d a;replace f:=ae f a;replace m:=ae m a;have t:=O (sH (wk:=wk) λk U=>(z k U).kin (K.below d));have V:=O s;have W:jc ((dm wk)[0]?=jb (jf jg ((dH g (q.map (·.1))).elim 0 λc=>(c.ix:je)))):=O (by rw[<-s];cases wk<;>rfl);refine j _ _ f.out λ_=>?_
  clear j n z s a;refine G ?_;iterate 3 refine co ?_
  refine cV N (λx j=>?_);rw[jC aj];refine jZ VK.t _ _ N l (dm wk) N N VK.t VK.Z m.out (by rw[t.1];exact VK.hi) (VK.hZ.trans t.1.symm) t.2 ?_;have C:jc ((p.setRow l (dm wk)).heap[l]?=jb (jn (dm wk) VK.t (0,0))):=O (jW _ _ _ _ _ _ m.out);have D:jc (jo w w (p.setRow l (dm wk))):=O (iR d X _);have u:(p.setRow l (dm wk)).heap[M]?=jb (jn y VG.t (0,0)):=(jJ _ _ _ _ (λe=>by have h:=m.out;rw[<-e,f]at h;injection h with h;injection h with _ h;exact jq h L)).trans f;generalize p.setRow l (dm wk)=x9 at C D u⊢;refine j _ _ u λ_=>?_
  clear j u;refine G ?_;refine co ?_;refine fc ?_;have c0:=ai (i:=0) C W
  go_wp2_with fail
  go_ret2;exact⟨yT (jH (λb=>qE #[_,.bool b]) (by rw[<-V];cases wk<;>rfl)),D⟩
 refine cV N (λx j=>?_);rw[jC aj];refine gM VK.t N VK.Z VK.hal ?_;have B:=O d.size;obtain⟨x2,l,r,o,m,a⟩:=dh x1 VK.Z VK.t;rw[<-r,<-o];replace d:=ah d a;replace f:=ae f a;have X:jc (w.heap.size<=l):=O (by rw[o];exact B);refine j _ _ f.out λ_=>?_
 clear j r o a B;refine G ?_;refine cV N (λx j=>?_);go_simp;refine(pV q _ x2 (K.below d) P (Q.below d) R).mono ?_;rintro e H ⟨v2,v3,rfl,S,a⟩;have F:=O (S.mono (E:=(·<H.heap.size)) λb o=>o.2);replace d:=ah d a;replace f:=ae f a;replace m:=ae m a;refine j _ _ f.out λ_=>?_
 clear j S a;refine G ?_;refine cV N (λx j=>?_);go_simp;have n:=uf q _ v2 v3 g vm vt H F (HG.below d) P (Q.below d) R Wi Wx Vy;rw[<-Yx]at n;refine n.mono ?_;rintro e p ⟨wk,rfl,z,s,a⟩;replace d:=ah d a;replace f:=ae f a;replace m:=ae m a;have t:=O (sH (wk:=wk) λk U=>(z k U).kin (K.below d));have V:=O s;have W:jc ((dm wk)[0]?=jb (jf jg ((dH g (q.map (·.1))).elim 0 λc=>(c.ix:je)))):=O (by rw[<-s];cases wk<;>rfl);refine j _ _ f.out λ_=>?_
 clear j n z s a;refine G ?_;iterate 3 refine co ?_
 refine cV N (λx j=>?_);rw[jC aj];refine jZ VK.t _ _ N l (dm wk) N N VK.t VK.Z m.out (by rw[t.1];exact VK.hi) (VK.hZ.trans t.1.symm) t.2 ?_;have C:jc ((p.setRow l (dm wk)).heap[l]?=jb (jn (dm wk) VK.t (0,0))):=O (jW _ _ _ _ _ _ m.out);have D:jc (jo w w (p.setRow l (dm wk))):=O (iR d X _);have u:(p.setRow l (dm wk)).heap[M]?=jb (jn y VG.t (0,0)):=(jJ _ _ _ _ (λe=>by have h:=m.out;rw[<-e,f]at h;injection h with h;injection h with _ h;exact jq h L)).trans f;generalize p.setRow l (dm wk)=x9 at C D u⊢;refine j _ _ u λ_=>?_
 clear j u;refine G ?_;refine co ?_;refine fc ?_;have c0:=ai (i:=0) C W
 go_wp2_with fail
 go_ret2;exact⟨yT (jH (λb=>qE #[_,.bool b]) (by rw[<-V];cases wk<;>rfl)),D⟩
section
section
variable {q1 q2 q3 q4:CQ}
theorem Da{P:Cmt->Prop}(b:P cS3)(c:P bS)(d:P cM)(e:P bF):∀p∈[(cS3,q3),(bS,q2),(cM,q4),(bF,q1)],P p.1:=by
 intro p a;simp only[jT,nn,or_false]at a
 rcases a with rfl|rfl|rfl|rfl
 ·exact b
 ·exact c
 ·exact d
 exact e
theorem rS:[(cS3,q3),(bS,q2),(cM,q4),(bF,q1)].map (·.1)=[cS3,bS,cM,bF]:=N
theorem Az:∀p∈[(cS3,q3),(bS,q2),(cM,q4),(bF,q1)],p.1.chg.length<=1000000:=
 Da (P:=λc=>c.chg.length<=1000000) (by rw[iM.1];decide) (by rw[nN.1];simp) (by rw[iM.2.2.1];decide) (by rw[mr.1];simp)
theorem wK:∀p∈[(cS3,q3),(bS,q2),(cM,q4),(bF,q1)],cZ (aR p.1):=
 Da (P:=λc=>cZ (aR c)) lC.2.2.1 lC.2.1 lC.2.2.2 lC.1
theorem NV(v:jd)(W:jj)(l:cA W v [(cS3,q3),(bS,q2),(cM,q4),(bF,q1)])(m:bH W):
 jr jp 6 #[ja (c8 3 (aH bF)).toArray,v] W λe w'=>∃a b f g,e=jt (jw #[jk a 3 b,jk f 3 g])/\
  aG (·<w'.heap.size) w' (jk a 3 b) 1 3 [jf jg 3,jf jg 1,jf jg 2]/\jo W W w':=by
 refine(yH _ v 3 (aH bF) (dQ _) W l wK m ar Az).mono ?_;rintro e w' ⟨u1,u2,Ks,rfl,i,d,j,-,n⟩;rw[rS,oJ.chain]at i;have o:Ks.length=3:=by have h:=jH jY i;simpa using h
 have p:(Ks.map λk=>jz .i64 k.ix)=[jf jg 3,jf jg 1,jf jg 2]:=by
  have h:=jH (List.map λc:aM=>jz .i64 (c.ix:je)) i;rw[qa]at h;exact h.trans (by unfold cO;rfl)
 rw[o]at d j;rw[p]at d;obtain⟨a,b,rfl⟩:=d.form;obtain⟨f,g,rfl⟩:=j.form;exact⟨a,b,f,g,N,d.mono λk c=>c.2,n⟩
theorem LU(g:Grp)(c:Cmt)(i:jl):(cO g c i).ix=i:=by unfold cO;rfl
theorem MF{fol:je}{fid:LBy}{l:ji Cmt}{c:aM}(h:eS fol fid l=jb c):pS fol fid l=sJ l c:=by unfold pS;rw[h]
theorem Nw:pS 3 (aH bF) [cS3,bS,cM,bF]=[⟨3,bF,aH bF,0,aC (aI 3) bF⟩,cO (aC (aI 3) bF) bS 1,cO (aC (aC (aI 3) bF) bS) cM 2,cO (aC (aC (aI 3) bF) bS) cS3 0]:=by
 rw[MF oJ.first];exact oJ.all
theorem QX(v:jd)(W:jj)(h:cA W v [(cS3,q3),(bS,q2),(cM,q4),(bF,q1)])(i:bH W):
 jr jp 17 #[ja (c8 3 (aH bF)).toArray,v] W λe w'=>∃a b u2,e=jt (jw #[jk a 4 b,u2])/\
  aG (·<w'.heap.size) w' (jk a 4 b) 1 4 [jf jg 3,jf jg 1,jf jg 2,jf jg 0]/\jo W W w':=by
 refine(Kf _ v 3 (aH bF) (dQ _) W h wK i ar).mono ?_;rintro e w' ⟨u1,u2,Ks,rfl,d,g,-,-,j⟩;rw[rS,Nw]at d;have l:Ks.length=4:=(jy (f:=CK.cand) ..).symm.trans ((jH jY d).trans N);have m:ixs Ks=[jf jg 3,jf jg 1,jf jg 2,jf jg 0]:=by
  have e:ixs Ks=(Ks.map CK.cand).map λc=>jz .i64 (c.ix:jl):=by rw[qa];rfl
  rw[e,d];simp only[j7,jQ,LU]
  rfl
 rw[l,m]at g;obtain⟨a,b,rfl⟩:=g.form;exact⟨a,b,u2,N,g.mono λk c=>c.2,j⟩
theorem Ll(v:jd)(W:jj)(d:cA W v [(cS3,q3),(bS,q2),(cM,q4),(bF,q1)])(f:bH W):
 jr jp 12 #[ja (c8 3 (aH bF)).toArray,v] W λe w'=>∃vm vt,e=jt (jw #[ja (aB (aC cU cM) vm vt).toArray,.bool jh])/\bL w' (aC cU cM) vm vt/\jo W W w':=by
 refine(ya _ v 3 (aH bF) (dQ _) W d wK f ar Az).mono ?_;rintro e w' ⟨k,rfl,a,g,i⟩;rw[rS,oJ.chain]at a
 rcases k with _|k
 ·cases a
 have b:k.g=aC cU cM:=by
  have h:=jH (Option.map aM.leads) a;exact pz.inj (h.trans (by unfold cO;rfl))
 have c:=(g k N).grp.grp;rw[b]at c;refine⟨k.vm,k.vt,?_,c,i⟩;rw[<-b];rfl
theorem Du(v:jd)(W:jj)(d:cA W v [(cS3,q3),(bS,q2),(cM,q4),(bF,q1)])(f:bH W)(a:jv jd)(b:je)(g:∀t c,((aH bS).map v8)[t]?=jb c->a[1+t]?=jb c)(i:a[33]?=jb (jf jg 0))(j:a[34]?=jb (jf jg b)):
 jr jp 19 #[ja (c8 3 (aH bF)).toArray,v,ja a] W λe w'=>e=jt (.bool (decide (b<=5)))/\jo W W w':=by
 have h:=Dv _ v 3 (aH bF) (dQ _) a (aH bS) 0 b (dQ _) g i j W d wK f ar Az (by
  rw[rS,oJ.chain];intro k c;have l:=lU (gY lS);have m:=lU (gY lh);have n:=lU (gY mR);simp only[jT,nn,or_false]at c
  rcases c with rfl|rfl|rfl
  ·exact jE l.1 L
  ·exact jE m.1 L
  exact jE n.1 L)
 rw[rS,MM oJ]at h;exact h
end
theorem uu(W:jj):cA W (jk jm 0 0) []:=⟨⟨N,jm,0,N,jA _,λ_=>rfl,λh=>jq h (qh _)⟩,λp a=>by cases a⟩
theorem va(fol:je)(fid:LBy):dA fol fid []=[]:=by
 rw[pQ];rfl
theorem PU(g:Grp):dH g []=jm:=by
 unfold dH fg eR;simp[bW]
theorem I6(fid:LBy)(g:fid.length=32)(W:jj)(h:bH W):
 jr jp 6 #[ja (c8 3 fid).toArray,jk jm 0 0] W λe w'=>∃a b c d,e=jt (jw #[jk a 0 b,jk c 0 d])/\jo W W w':=by
 refine(yH [] _ 3 fid g W (uu W) (λp f=>by cases f) h ar (λp f=>by cases f)).mono ?_;rintro e w' ⟨u1,u2,Ks,rfl,f,i,j,-,k⟩;rw[jQ,va]at f;obtain rfl:Ks=[]:=ak f;obtain⟨a,b,rfl⟩:=i.form;obtain⟨c,d,rfl⟩:=j.form;exact⟨a,b,c,d,N,k⟩
theorem OH(fid:LBy)(b:fid.length=32)(W:jj)(c:bH W):
 jr jp 12 #[ja (c8 3 fid).toArray,jk jm 0 0] W λe w'=>e=jt (jw #[ja (kP jm),.bool js])/\jo W W w':=by
 refine(ya [] _ 3 fid b W (uu W) (λp a=>by cases a) c ar (λp a=>by cases a)).mono ?_;rintro e w' ⟨k,rfl,a,f,d⟩;rw[jQ,va]at a;obtain rfl:k=jm:=ak a;exact⟨N,d⟩
theorem Mq(W:jj)(b:bH W):
 jr jp 8 #[ja (aB ku vN vN).toArray,jk jm 0 0] W λe w'=>e=jt (jw #[jf jg 0,.bool js])/\jo W W w':=by
 refine(AQ [] _ ku vN vN W (uu W) ⟨⟨N,jm,0,N,jA _,λ_=>rfl,λh=>jq h (qh _)⟩,oG W,by decide⟩ (λp a=>by cases a) b ar L L (λp a=>by cases a)).mono ?_;rintro e w' ⟨rfl,a⟩;rw[jQ,PU];exact⟨N,a⟩
theorem J2(fid:LBy)(g:fid.length=32)(W:jj)(i:bH W)(a:jv jd)(b:LBy)(j:b.length=32)(d f:je)(l:∀t c,(b.map v8)[t]?=jb c->a[1+t]?=jb c)(m:a[33]?=jb (jf jg d))(n:a[34]?=jb (jf jg f)):
 jr jp 19 #[ja (c8 3 fid).toArray,jk jm 0 0,ja a] W λe w'=>e=jt (.bool js)/\jo W W w':=by
 have h:=Dv [] (jk jm 0 0) 3 fid g a b d f j l m n W (uu W) (λp c=>by cases c) i ar (λp c=>by cases c) (by rw[jQ,va];intro k c;cases c);rw[jQ,va]at h;exact h
end
section
variable{b:CQ}{a:Cmt}{e:oj}
section
variable {P:ob} {ops:jv jO} {Q:Exit->Act->jj->Prop}
theorem eL.four(R:eL P){o:jO}{l:ji jO}{a:Act}{w:jj}(m:o.guard=jm)(f g j k:qb)(n:o.op=.buildSlice R.t 4 #[(0,f),(1,g),(2,j),(3,k)])(A0 b c d:jv jd)(p:a.eval f=ja A0)(q:a.eval g=ja b)(r:a.eval j=ja c)(s:a.eval k=ja d)
 (t:A0.size=R.k) (s1:b.size=R.k) (s2:c.size=R.k) (s3:d.size=R.k) (h:wpList P ops Q l (a.put o.dst (jk (jb ⟨w,0,jm⟩) 4 4)) (w.alloc (jn (A0.toList++(b.toList++(c.toList++d.toList))).toArray R.e))):wpList P ops Q (o::l) a w:=by
 have u:=R.hk;have y:=R.h0;refine wpList_buildSlice m R.t R.e 4 _ n (A0.toList++(b.toList++(c.toList++d.toList))).toArray R.i R.z R.ht R.hi R.hz (by rw[R.hs];omega) (by rw[R.hs];omega) ?_ h;have e:((#[(0,f),(1,g),(2,j),(3,k)]:jv (jl×qb)).map fun(i,x)=>(i,a.eval x)).toList=(([ms A0,ja b,ja c,ja d]:ji jd).zipIdx 0).map λx=>(x.2,x.1):=by simp[p,q,r,s]
 rw[e,R.hs];refine(Great.fill_whole R.h0 [ms A0,ja b,ja c,ja d] _ (λv i=>?_) ar).trans (by simp[mz]);simp only[jT,nn,or_false]at i
 rcases i with rfl|rfl|rfl|rfl
 ·exact t
 ·exact s1
 ·exact s2
 exact s3
end
noncomputable def RCm:eL jp:=.of 26 48 73 200 (ja (aE mO nE).toArray) qH af (by rw[mz,jD];exact dl _ _ L L) L L L
theorem O1{a:Act}{o:jO}{x:qb}{b:jv jd}(c:b.size=32)(d:o.op=.build 25 #[(0,.const (jf jg 3)),(1,x)])(e:a.eval x=ja b)(W:jj):
 (j5 a.eval o).run jp W=.ok (.value (ja (#[jf jg 3]++b))) W:=by
 have f:(c8 0 cF).toArray=([]++([jz .i64 0]++(cF.map v8++[]))).toArray:=by kernel_rfl
 have g:=uB (P:=jp) (t:=25) (zero:=ja (c8 0 cF).toArray) (places:=#[(0,1),(1,32)]) (λw=>by kernel_rfl) qI (λw=>by kernel_rfl)
  (parts:=#[(0,jf jg 3),(1,ja b)]) (X:=(#[jf jg 3]++b)) (by
   show Instr.fill _ (c8 0 cF).toArray [(0,jz .i64 3),(1,ms b)]=_;rw[f,mE (A0:=[]) (off:=0) (size:=1) N N N N];show Instr.fill _ ([jz .i64 3]++_).toArray _ =_;rw[mE (A0:=[jz .i64 3]) (off:=1) (size:=32) N N N (v:=ja b) c,Instr.fill];simp[mz]) W
 simp only[j5,d,qz,j7,jQ,e];simp only[Sem.run_bind,show a.eval (.const (jf jg 3))=jz .i64 3 from N,g,Result.andThen_ok,Sem.run_pure]
def itT:ji jd:=[jf jg 0,jf jg 0,jf jg 0,jf jg 0]++(cF.map v8++[jk jm 0 0,jf jg 0,jf jg 0])
def itC(a:ji jd)(b:je):ji jd:=[jf jg 0]++(a++([jf jg 0]++([jf jg b]++itT)))
noncomputable def VIt:VarT jp:=⟨71,74,(itC (cF.map v8) 0).toArray,_,underlying71,N,by kernel_rfl,rfl,λ_=>by kernel_rfl⟩
theorem ML{a:Act}{o:jO}{x:qb}{b:jv jd}(c:b.size=32)(d:o.op=.build 71 #[(1,x),(3,.const (jf jg 5))])(f:a.eval x=ja b)(W:jj):
 (j5 a.eval o).run jp W=.ok (.value (ja (itC b.toList 5).toArray)) W:=by
 have g:=uB (P:=jp) (t:=71) (zero:=ja (itC (cF.map v8) 0).toArray) (places:=#[(0,1),(1,32),(33,1),(34,1),(35,1),(36,1),(37,34),(71,1),(72,2)]) (λw=>by kernel_rfl) underlying71 (λw=>by kernel_rfl)
  (parts:=#[(1,ja b),(3,jf jg 5)]) (X:=(itC b.toList 5).toArray) (by
   show Instr.fill _ (itC (cF.map v8) 0).toArray [(1,ms b),(3,jz .i64 5)]=_;have h:b.toList.length=32:=by rw[j3];exact c
   unfold itC;rw[mE (A0:=[jz .i64 0]) (off:=1) (size:=32) N N N (v:=ja b) c];show Instr.fill _ ([jz .i64 0]++(b.toList++([jz .i64 0]++([jz .i64 0]++itT)))).toArray _ =_;have e:∀l:ji jd,[jz .i64 0]++(b.toList++([jz .i64 0]++l))=([jz .i64 0]++b.toList++[jz .i64 0])++l:=λl=>by simp
   rw[e,mE (A0:=[jz .i64 0]++b.toList++[jz .i64 0]) (off:=34) (size:=1) N (by simp[h]) N (v:=jf jg 5) N,Instr.fill];show jb (([jz .i64 0]++b.toList++[jz .i64 0])++([jz .i64 5]++itT)).toArray=_;rw[<-e]) W
 simp only[j5,d,qz,j7,jQ,f];simp only[Sem.run_bind,show a.eval (.const (jf jg 5))=jz .i64 5 from N,g,Result.andThen_ok,Sem.run_pure]
structure ItP(a:jv jd)(c:LBy)(d:je):Prop where
 sz:a.size=VIt.n
 one:a.all (·.oneCell')=jh
 id:∀t b,(c.map v8)[t]?=jb b->a[1+t]?=jb b
 dev:a[33]?=jb (jf jg 0)
 ctr:a[34]?=jb (jf jg d)
theorem itP(b:LBy)(c:je)(h:b.length=32):ItP (itC (b.map v8).toArray.toList c).toArray b c:=by
 have d:(b.map v8).length=32:=by rw[jy];exact h
 refine⟨?_,?_,λt e a=>?_,?_,?_⟩
 ·show _ =74
  unfold itC itT;simp[h,cF]
 ·rw[jS]
  intro e a;unfold itC itT at a;simp only[qF,j4,jT,nn,or_false,qs]at a
  rcases a with rfl|a|rfl|rfl|(rfl|rfl|rfl|rfl)|a|rfl|rfl|rfl
  all_goals first|rfl|exact iu _ e a
 ·have f:t<(b.map v8).length:=(jL.1 a).1
  unfold itC;rw[qs,jV,j1 ar,qt,show 1+t-1=t by omega,j9 f];exact a
 ·unfold itC
  rw[qs,jV,j1 ar,qt,j1 Y,d]
  rfl
 unfold itC;rw[qs,jV,j1 ar,qt,j1 Y,d]
 rfl
theorem On(c:ji jd)(a b:je)(h:c.length=32):(itC c a).toArray.setIfInBounds 34 (jf jg b)=(itC c b).toArray:=by
 rw[List.setIfInBounds_toArray];refine jH List.toArray ?_;unfold itC;rw[qO _ _ ar,qt,qO _ _ Y,h]
 rfl
theorem Cz(W:jj):bL W ku vN vN:=⟨⟨N,jm,0,N,jA _,λ_=>rfl,λh=>jq h (qh _)⟩,oG W,by decide⟩
structure S5(w:jj)(BL:ji (jl×jv jd×jB))(CL:ji CP)(GL:ji (Grp×jd×jd))(v:jd)(LS:ji CP)(g:Grp)(m t u1 u2:jd)(x:jj):Prop where
 s:SSt w BL CL GL x
 ci:cA x v LS
 gi:bL x g m t
 at_:aG (·<x.heap.size) x u1 1 3 [jf jg 3,jf jg 1,jf jg 2]
 al:aG (·<x.heap.size) x u2 1 4 [jf jg 3,jf jg 1,jf jg 2,jf jg 0]
section
variable {w x x':jj} {BL:ji (jl×jv jd×jB)} {CL LS:ji CP} {GL:ji (Grp×jd×jd)} {v m t u1 u2:jd} {g:Grp}
theorem S5.below(h:S5 w BL CL GL v LS g m t u1 u2 x)(a:jo x x x'):S5 w BL CL GL v LS g m t u1 u2 x':=
 ⟨h.s.below a,h.ci.below a,h.gi.below a,(h.at_.keep λk b=>a.block k b).mono λk b=>ju b a.size,(h.al.keep λk b=>a.block k b).mono λk b=>ju b a.size⟩
theorem S5.block(h:S5 w BL CL GL v LS g m t u1 u2 x){b:jl}{a:jv jd}{c:jB}(d:x.heap[b]?=jb (jn a c (0,0))):S5 w ((b,a,c)::BL) CL GL v LS g m t u1 u2 x:=⟨h.s.block d,h.ci,h.gi,h.at_,h.al⟩
end
structure gZ(g:Grp)(c:Cmt)(W w':jj)(e:oj)(q:CQ)(vm vt:jd)(a b:jv jd):Prop where
 ret:e=jt (jw #[ja a,ja b,.bool jh])
 ac:a=(aE c q).toArray
 ag:b=(aB (aC g c) vm vt).toArray
 com:aW (λk=>W.heap.size<=k/\k<w'.heap.size) w' c q
 grp:dz (λk=>W.heap.size<=k/\k<w'.heap.size) w' (aC g c) vm vt
 bel:jo W W w'
theorem gZ.csz{g:Grp}{W w':jj}{vm vt:jd}{c q:jv jd}(h:gZ g a W w' e b vm vt c q):c.size=VC.n:=by
 rw[h.ac,jD];exact dl _ _ h.com.plen h.com.clen
theorem gZ.cone{g:Grp}{W w':jj}{vm vt:jd}{c q:jv jd}(h:gZ g a W w' e b vm vt c q):c.all (·.oneCell')=jh:=by
 rw[h.ac,jS];exact λd f=>mC h.com d (ak f)
theorem gZ.gsz{g:Grp}{W w':jj}{vm vt:jd}{q c:jv jd}(h:gZ g a W w' e b vm vt q c):c.size=VG.n:=by
 rw[h.ag,jD];exact eH h.grp.grp.llen
theorem gZ.gone{g:Grp}{W w':jj}{vm vt:jd}{i f:jv jd}(h:gZ g a W w' e b vm vt i f):f.all (·.oneCell')=jh:=by
 obtain⟨p,l,c,n',q,rfl,rfl⟩:∃p k c n' q,vm=jk p (aC g a).mem.length k/\vt=jk c n' q:=by
  obtain⟨p,a,d,-⟩:=h.grp.grp.mem.form;obtain⟨c,n',q,j⟩:=gP h.grp.grp.tree;exact⟨p,a,c,n',q,d,j⟩
 rw[h.ag,jS];intro j d;simp only[aB,qF,jT,j4,nn,or_false]at d
 rcases d with rfl|rfl|d|rfl|rfl
 ·rfl
 ·rfl
 ·exact iu _ j d
 ·rfl
 rfl
theorem vC{g:Grp}{vm vt:jd}{d:jl}(h:d<512)(b:BitVec 8){x:ap}{c:Cmt}(i:ia g (d:je) ((d+2:jl):je) [x]=0)(j:c=mkC g (d:je) (d+2) [x] (kz b) (kz 1) (kz b))(k:gS g c)(l:cZ (aR c))
 {a:jv jd} (n:a=(aB g vm vt).toArray) {f:jd} {W:jj} (o:bL W g vm vt) (p:gJ W) (r:aG (·<W.heap.size) W f 5 1 x.cells):
 jr jp 13 #[ja a,jf jg (d:je),v8 b,f] W λe w'=>∃q s u v w,gZ g c W w' e q s u v w:=by
 rw[n];refine(Pb h b o r p i c j k l).mono ?_;rintro e w' ⟨q,m,t,y,z,B,C⟩;exact⟨q,m,t,_,_,y,N,N,z,B,C⟩
theorem BS(V U:VarT jp)(x:jj)(a:jv jd):(((x.alloc (jn V.Z V.t)).alloc (jn U.Z U.t)).setRow x.heap.size a).heap[x.heap.size+1]?=jb (jn U.Z U.t (0,0)):=by
 have h:=jF (x.alloc (jn V.Z V.t)) (jn U.Z U.t);rw[o8]at h;exact(jJ _ _ _ _ Y).trans h
theorem Jv(V U:VarT jp)(a B:jv jd)(x:jj):∃x' b,x'=(((x.alloc (jn V.Z V.t)).alloc (jn U.Z U.t)).setRow x.heap.size a).setRow (x.heap.size+1) B/\b=x.heap.size/\
 x'.heap[b]?=jb (jn a V.t (0,0))/\x'.heap[b+1]?=jb (jn B U.t (0,0))/\jo x x x':=by
 have c:((x.alloc (jn V.Z V.t)).alloc (jn U.Z U.t)).heap[x.heap.size]?=jb (jn V.Z V.t (0,0)):=av (jF x _) (ao _ _);have d:=(ao x (jn V.Z V.t)).trans ((ao (x.alloc (jn V.Z V.t)) (jn U.Z U.t)).mono (ao x (jn V.Z V.t)).size);refine⟨_,_,N,N,(jJ _ _ _ _ Y).trans (jW _ _ _ _ _ _ c),jW _ _ _ _ _ _ (BS V U x a),ow (ow d (jA _) a) (Nat.le_succ _) B⟩
structure fA(d W:jj)(e f:jd)(g:Grp)(c:Cmt)(q:CQ)(m t:jd)(a b:jv jd):Prop where
 ac:a=(aE c q).toArray
 ag:b=(aB (aC g c) m t).toArray
 csz:a.size=VC.n
 cone:a.all (·.oneCell')=jh
 gsz:b.size=VG.n
 gone:b.all (·.oneCell')=jh
 ex:∃D:jl->Prop,aW D W c q/\dz D W (aC g c) m t/\∀k,D k->d.heap.size<=k/\k<W.heap.size/\e≠ptr k/\f≠ptr k
theorem fA.keep{e W f:jj}{i j:jd}{g:Grp}{c:Cmt}{q:CQ}{m t:jd}{l n:jv jd}(h:fA e W i j g c q m t l n)(d:jo W W f):fA e f i j g c q m t l n:=by
 obtain⟨o,p,r,s,u,v,D,w,x,b⟩:=h;exact⟨o,p,r,s,u,v,D,w.keep λk a=>d.block k (b k a).2.1,x.keep λk a=>d.block k (b k a).2.1,λk a=>⟨(b k a).1,ju (b k a).2.1 d.size,(b k a).2.2⟩⟩
theorem fA.c{d W:jj}{l f:jd}{g:Grp}{c:Cmt}{q:CQ}{m t:jd}{i j:jv jd}(h:fA d W l f g c q m t i j){n:jl}(y:W.heap.size<=n):fA d W (ptr n) f g c q m t i j:=by
 obtain⟨o,p,r,s,u,v,D,w,x,a⟩:=h;exact⟨o,p,r,s,u,v,D,w,x,λk b=>⟨(a k b).1,(a k b).2.1,λe=>(by injection e with e;injection e with e;injection e with e;have:=(a k b).2.1;omega),(a k b).2.2.2⟩⟩
theorem fA.g{d W:jj}{f l:jd}{g:Grp}{c:Cmt}{q:CQ}{m t:jd}{i j:jv jd}(h:fA d W f l g c q m t i j){n:jl}(y:W.heap.size<=n):fA d W f (ptr n) g c q m t i j:=by
 obtain⟨o,p,r,s,u,v,D,w,x,a⟩:=h;exact⟨o,p,r,s,u,v,D,w,x,λk b=>⟨(a k b).1,(a k b).2.1,(a k b).2.2.1,λe=>(by injection e with e;injection e with e;injection e with e;have:=(a k b).2.1;omega)⟩⟩
theorem fA.of{b W d:jj}{f i:jd}{g:Grp}{c:Cmt}{q:CQ}{m t:jd}{j l:jv jd}(h:gZ g c W d e q m t j l)(n:b.heap.size<=W.heap.size)(o:∀k,W.heap.size<=k->f≠ptr k)(p:∀k,W.heap.size<=k->i≠ptr k):fA b d f i g c q m t j l:=
 ⟨h.ac,h.ag,h.csz,h.cone,h.gsz,h.gone,_,h.com,h.grp,λk a=>⟨jE n a.1,a.2,o k a.1,p k a.1⟩⟩
theorem fA.end{d W:jj}{C K:jl}{g:Grp}{m t:jd}{c q:jv jd}(h:fA d W (ptr C) (ptr K) g a b m t c q)(r:jo d d W)(l:W.heap[C]?=jb (jn VC.Z VC.t (0,0)))(s:d.heap.size<=C)
 (i:W.heap[K]?=jb (jn VG.Z VG.t (0,0))) (u:d.heap.size<=K):(W.setRow C c).heap[K]?=jb (jn VG.Z VG.t (0,0))/\∃y,y=(W.setRow C c).setRow K q/\y.heap[C]?=jb (jn c VC.t (0,0))/\y.heap[K]?=jb (jn q VG.t (0,0))/\aW (·<y.heap.size) y a b/\bL y (aC g a) m t/\jo d d y:=by
 have n:C≠K:=by
  rintro rfl;rw[l]at i;simp[VC,VG]at i
 obtain⟨z,B,-,-,-,-,D,v,w,j⟩:=h;have o:=(jJ W C K c (Ne.symm n)).trans i;have x:((W.setRow C c).setRow K q).heap.size=W.heap.size:=by rw[setRow_size,setRow_size]
 have p:∀k,D k->((W.setRow C c).setRow K q).heap[k]?=W.heap[k]?:=λk f=>(jJ _ K k q (λe=>(j k f).2.2.2 (by rw[e]))).trans (jJ W C k c (λe=>(j k f).2.2.1 (by rw[e])))
 exact⟨o,_,N,(jJ _ K C q n).trans (jW W C _ c _ _ l),jW _ K _ q _ _ o,(v.keep p).mono λk f=>by rw[x];exact(j k f).2.1,(w.keep p).grp,ow (ow r s c) u q⟩
def T3(b:jj)(f s1 s2 s3 s29 s30 s31 s32 s33 s34 s35 s36:jd)(h E:jv jd)(g:Grp)(c:Cmt)(j:jl)(i k:Bool)(a:Act)(W:jj):Prop:=
 ∃T39 T40 T41 T37 T42 T43 T44 T4 T5,a={tmps:=#[f,s1,s2,s3,T4,T5,I,I,I,I,I,I,I,I,I,I,I,I,I,I,I,I,I,I,I,I,I,I,I,s29,s30,s31,s32,s33,s34,s35,s36,T37,ja h,T39,T40,T41,T42,T43,T44,I,I,I,I,I,I,I,I,I,I,I,I,I,I,I,I,I,I,I,I,I,I,I,I,I,I,I,I,I,I,I,I,I,I,I,I,I,I,I,I,I,I,I,I,I,I,I,I,I,I,I,I,I,I,I,I,I,I,I,I,I,I,I,I,I,I,I,I,I,I,I,I,I,I,I,I,I,I,I,I,I,I,I,I,I,I,I,I,I,I,I,I,I,I,I,I,I,I,I,I,I,I,I,I,I,I,I,I,I,I,I,I,I,I,I,I,I,I,I,I,I,I,I,I,I,I,I,I,I,I,I,I,I,I,I,I,I,I,I,I,I,I,I,I,I,I,I,I,I,I,I,I,I,I,I,I,I,I,I,I,I,I,I,I,I,I],defers:=[]}/\jo b b W/\(1<=j->T39=ja E)/\(2<=j->aG (·<W.heap.size) W T40 5 1 E.toList)/\
  (3<=j->∃q m t d e,T41=jw #[ja d,ja e,.bool jh]/\(4<=j->T37=T41)/\(5<=j->T42=ja d)/\(6<=j->T43=ja e)/\(7<=j->T44=.bool jh)/\fA b W T4 T5 g c q m t d e)/\
  iA VC.t VC.Z b i T4 W/\iA VG.t VG.Z b k T5 W
def OB(b:jj)(f s1 s2 s3 s4 s5 s6 s29 s30 s31 s32 s33 s34 s35 s36 s37 s38 s39 s40 s41 s42 s43 s44:jd)(h E:jv jd)(g:Grp)(c:Cmt)(j:jl)(i k:Bool)(a:Act)(W:jj):Prop:=
 ∃T47 T48 T49 T45 T50 T51 T52 T7 T8,a={tmps:=#[f,s1,s2,s3,s4,s5,s6,T7,T8,I,I,I,I,I,I,I,I,I,I,I,I,I,I,I,I,I,I,I,I,s29,s30,s31,s32,s33,s34,s35,s36,s37,s38,s39,s40,s41,s42,s43,s44,T45,ja h,T47,T48,T49,T50,T51,T52,I,I,I,I,I,I,I,I,I,I,I,I,I,I,I,I,I,I,I,I,I,I,I,I,I,I,I,I,I,I,I,I,I,I,I,I,I,I,I,I,I,I,I,I,I,I,I,I,I,I,I,I,I,I,I,I,I,I,I,I,I,I,I,I,I,I,I,I,I,I,I,I,I,I,I,I,I,I,I,I,I,I,I,I,I,I,I,I,I,I,I,I,I,I,I,I,I,I,I,I,I,I,I,I,I,I,I,I,I,I,I,I,I,I,I,I,I,I,I,I,I,I,I,I,I,I,I,I,I,I,I,I,I,I,I,I,I,I,I,I,I,I,I,I,I,I,I,I,I,I,I,I,I,I,I,I,I,I],defers:=[]}/\jo b b W/\(1<=j->T47=ja E)/\(2<=j->aG (·<W.heap.size) W T48 5 1 E.toList)/\
  (3<=j->∃q m t d e,T49=jw #[ja d,ja e,.bool jh]/\(4<=j->T45=T49)/\(5<=j->T50=ja d)/\(6<=j->T51=ja e)/\(7<=j->T52=.bool jh)/\fA b W T7 T8 g c q m t d e)/\
  iA VC.t VC.Z b i T7 W/\iA VG.t VG.Z b k T8 W
def Ji(b:jj)(f s1 s2 s3 s4 s5 s6 s7 s8 s9 s29 s30 s31 s32 s33 s34 s35 s36 s37 s38 s39 s40 s41 s42 s43 s44 s45 s46 s47 s48 s49 s50 s51 s52:jd)(h E:jv jd)(g:Grp)(c:Cmt)(j:jl)(i k:Bool)(a:Act)(W:jj):Prop:=
 ∃T55 T56 T57 T53 T58 T59 T60 T10 WE,a={tmps:=#[f,s1,s2,s3,s4,s5,s6,s7,s8,s9,T10,WE,I,I,I,I,I,I,I,I,I,I,I,I,I,I,I,I,I,s29,s30,s31,s32,s33,s34,s35,s36,s37,s38,s39,s40,s41,s42,s43,s44,s45,s46,s47,s48,s49,s50,s51,s52,T53,ja h,T55,T56,T57,T58,T59,T60,I,I,I,I,I,I,I,I,I,I,I,I,I,I,I,I,I,I,I,I,I,I,I,I,I,I,I,I,I,I,I,I,I,I,I,I,I,I,I,I,I,I,I,I,I,I,I,I,I,I,I,I,I,I,I,I,I,I,I,I,I,I,I,I,I,I,I,I,I,I,I,I,I,I,I,I,I,I,I,I,I,I,I,I,I,I,I,I,I,I,I,I,I,I,I,I,I,I,I,I,I,I,I,I,I,I,I,I,I,I,I,I,I,I,I,I,I,I,I,I,I,I,I,I,I,I,I,I,I,I,I,I,I,I,I,I,I,I,I,I,I,I,I,I,I,I,I,I,I,I],defers:=[]}/\jo b b W/\(1<=j->T55=ja E)/\(2<=j->aG (·<W.heap.size) W T56 5 1 E.toList)/\
  (3<=j->∃q m t d e,T57=jw #[ja d,ja e,.bool jh]/\(4<=j->T53=T57)/\(5<=j->T58=ja d)/\(6<=j->T59=ja e)/\(7<=j->T60=.bool jh)/\fA b W T10 WE g c q m t d e)/\
  iA VC.t VC.Z b i T10 W/\iA VG.t VG.Z b k WE W
theorem JW(w:jj)(a:gJ w):jr jp 4 #[] w λe w'=>e=jt (.bool jh)/\jo w w w':=by
 have f:=O (SSt.start a);clear a;obtain⟨ba,h⟩:=J AG3;have j:=O h;obtain⟨E1,a⟩:=J ((cQ 1).cells.toArray);have i:jc (E1.size=5):=O (by rw[a];rfl);have m:jc (E1.toList=(cQ 1).cells):=O (by rw[a]);have k:jc (∀W,jr jp 14 #[jf jg 1] W λe w'=>e=jt (ja E1)/\jo W W w'):=O (λW=>by rw[a];exact FF 1 L W);have n:jc (∀(W:jj) (vl:jd),gJ W->aG (·<W.heap.size) W vl 5 1 E1.toList->jr jp 13 #[ja ba,jf jg 1,jf .u8 1,vl] W λe w'=>∃q vm vt l AG,gZ (aI 3) bF W w' e q vm vt l AG):=O (λW vl P hs=>by
  rw[m]at hs;exact vC (d:=1) L 1#8 wh.1 N lS lC.1 h (Bv W 3) P hs)
 obtain⟨E0,b⟩:=J ((cQ 0).cells.toArray);have Wz:jc (E0.size=5):=O (by rw[b];rfl);have au:jc (E0.toList=(cQ 0).cells):=O (by rw[b]);have Vr:jc (∀W,jr jp 14 #[jf jg 0] W λe w'=>e=jt (ja E0)/\jo W W w'):=O (λW=>by rw[b];exact FF 0 L W);obtain⟨F1,c⟩:=J ((dM 1 5).cells.toArray);have ZY:jc (F1.size=5):=O (by rw[c];rfl);have a5:jc (F1.toList=(dM 1 5).cells):=O (by rw[c]);have UQ:jc (∀W,jr jp 15 #[jf jg 1,jf jg 5] W λe w'=>e=jt (ja F1)/\jo W W w'):=O (λW=>by rw[c];exact Gp 1 5 W);obtain⟨F0,g⟩:=J ((dM 0 5).cells.toArray);have bg:jc (F0.size=5):=O (by rw[g];rfl);have bk:jc (F0.toList=(dM 0 5).cells):=O (by rw[g]);have U0:jc (∀W,jr jp 15 #[jf jg 0,jf jg 5] W λe w'=>e=jt (ja F0)/\jo W W w'):=O (λW=>by rw[g];exact Gp 0 5 W);clear h a b c g
 go_enter func4,ntmps4
 go_upto_region 1 with fail
 go_wp2_with (refine ei (v:=ja ba) aj (by rw[j];exact I8 N _) ?_;refine G ?_)
 refine(k w).mono ?_;rintro e x1 ⟨rfl,b⟩;replace f:=O (f.below b);clear b k
 go_wp2_with (refine qc N λ_ B=>RCg.wp_build (.tmp 31) N (ja E1) N i (B _ _ ?_);clear B;refine G ?_)
 have g:jc (aG (·<(x1.alloc (jn E1 RCg.e)).heap.size) (x1.alloc (jn E1 RCg.e)) (jk (jb ⟨x1,0,jm⟩) 1 1) 5 1 E1.toList):=O (uO (jF x1 _) i);replace f:=O (f.below (ao x1 (jn E1 RCg.e)));refine(n _ _ f.tab g).mono ?_;rintro e x2 ⟨q1,m1,t1,S,R,a⟩;obtain rfl:=a.ret;replace f:=O ((f.below a.bel).made a.com (λk h=>h.2) a.grp.grp);have c:=O a;have bh:=O a.ac;have bu:=O a.ag;clear a n g i m j
 go_upto_region 2 with(first|(refine VC.made N N (G ?_))|(refine VG.made N N ?_;rw[o8];refine G ?_)|(refine VC.store N N N S N c.csz c.cone (av (jF x2 _) (ao _ _)) VC.hZ (G ?_))|(refine VG.store N N N R N c.gsz c.gone (BS VC VG x2 S) VG.hZ (G ?_)))
 obtain⟨x3,B1,z,U,u,x,b⟩:=Jv VC VG S R x2;rw[<-z,<-U];replace f:=O (((f.below b).block x).block u);have bb:jc (R.size=VG.n):=O c.gsz;have bd:jc (S.size=VC.n):=O c.csz;clear z U u x b c;have VL:jc (∀(W:jj) (vl:jd),gJ W->bL W (aC (aI 3) bF) m1 t1->aG (·<W.heap.size) W vl 5 1 E0.toList->jr jp 13 #[ja R,jf jg 1,jf .u8 2,vl] W λe w'=>∃q vm vt l AG,gZ (aC (aI 3) bF) bS W w' e q vm vt l AG):=O (λW vl P hg hs=>by
  rw[au]at hs;exact vC (d:=1) L 2#8 wh.2.1 N lh lC.2.1 bu hg P hs)
 have b:=bV x3;obtain⟨x4,z⟩:=J x3.drew;have HX:=O z;rw[<-z]at b;replace f:=O (f.below b);clear z b;refine j6 ?_;refine uo (λF=>F.heap[B1+1]?=jb (jn R VG.t (0,0))) [0] [(1,js),(2,js),(3,js),(4,jh),(5,jh),(6,jh),(7,jh)] 8 9 (.o 10 (.o 11 (.t 12 .done))) (T3 x4 (.bool js) (ptr B1) (ptr (B1+1)) (.bool jh) (jw #[ja S,ja R,.bool jh]) (ja ba) (ja E1) (jk (jb ⟨x1,0,jm⟩) 1 1) (jw #[ja S,ja R,.bool jh]) (ja S) (ja R) (.bool jh) R E0 (aC (aI 3) bF) bS) af af af af af L (λ_ _ _ _ h=>h) (by rw[<-HX];exact f.blk (_,_,_) ar) ?hIR2 ?hTR2 ?hCR2 ?h1R2 ?h2R2 ?hER2 ?h0R2
 case hIR2=>
  rintro j b1 b2 a W ⟨T39,T40,T41,T37,T42,T43,T44,T4,T5,rfl,b,u,x,C,r,s⟩;exact av (f.blk (_,_,_) ar) b
 case h1R2=>
  rintro j b2 a W ⟨T39,T40,T41,T37,T42,T43,T44,T4,T5,rfl,b,u,x,C,r,s⟩;refine jK (o:=_) N (λV B=>?_);rw[jC aj];refine gM VC.t N VC.Z VC.hal ?_;have c:=ao W (jn VC.Z VC.t);refine B _ _ ⟨T39,T40,T41,T37,T42,T43,T44,ptr W.heap.size,T5,N,b.trans (c.mono b.size),u,(λe=>((x e).keep λk g=>c.block k g).mono λk (g:k<W.heap.size)=>ju g c.size),λe=>?_,⟨λ_=>⟨_,N,jF _ _,b.size⟩,λh=>(by cases h)⟩,s.keep c⟩;obtain⟨q,m,t,l,p,X,D,E,K,M,n⟩:=C e;exact⟨q,m,t,l,p,X,D,E,K,M,(n.c (jA _)).keep c⟩
 case h2R2=>
  rintro j b1 a W ⟨T39,T40,T41,T37,T42,T43,T44,T4,T5,rfl,b,u,x,C,r,s⟩;refine jK (o:=_) N (λV B=>?_);rw[jC aj];refine gM VG.t N VG.Z VG.hal ?_;have c:=ao W (jn VG.Z VG.t);refine B _ _ ⟨T39,T40,T41,T37,T42,T43,T44,T4,ptr W.heap.size,N,b.trans (c.mono b.size),u,(λe=>((x e).keep λk g=>c.block k g).mono λk (g:k<W.heap.size)=>ju g c.size),λe=>?_,r.keep c,⟨λ_=>⟨_,N,jF _ _,b.size⟩,λh=>(by cases h)⟩⟩;obtain⟨q,m,t,l,p,X,D,E,K,M,n⟩:=C e;exact⟨q,m,t,l,p,X,D,E,K,M,(n.g (jA _)).keep c⟩
 case h0R2=>
  rw[<-HX]
  (refine nH (v:=ja R) N aj (λF hS=>dc VG.hu VG.hd (by rw[bb];exact VG.hi) N N hS) ?_;refine G ?_)
  exact⟨I,I,I,I,I,I,I,I,I,N,jI _ _,λh=>jq h L,λh=>jq h L,λh=>jq h L,⟨λh=>(by cases h),λ_=>rfl⟩,⟨λh=>(by cases h),λ_=>rfl⟩⟩
 case hTR2=>
  rintro j i H b1 b2 a W ⟨T39,T40,T41,T37,T42,T43,T44,T4,T5,rfl,b,u,x,C,r,s⟩
  rcases j with _ |_ |_ |_ |_ |_ |_ |j
  iterate 3 (·simp at H)
  ·obtain rfl:i=4:=ak H.symm
   obtain⟨q,m,t,l,p,X,D,E,K,M,n⟩:=C Y;refine⟨_,T41,N,.inl ⟨by rfl,λF hS=>.inl (by go_simp;try with_reducible rfl)⟩,?_⟩;exact⟨T39,T40,T41,T41,T42,T43,T44,T4,T5,N,b,λ_=>u Y,λ_=>x Y,λ_=>⟨q,m,t,l,p,X,λ_=>rfl,(λh=>jq h Y),(λh=>jq h Y),(λh=>jq h Y),n⟩,r,s⟩
  ·obtain rfl:i=5:=ak H.symm
   obtain⟨q,m,t,l,p,rfl,D,E,K,M,n⟩:=C Y;obtain rfl:=D Y;refine⟨_,ja l,N,.inl ⟨by rfl,λF hS=>.inl (by go_simp;try with_reducible rfl)⟩,?_⟩;exact⟨T39,T40,_,_,_,T43,T44,T4,T5,N,b,λ_=>u Y,λ_=>x Y,λ_=>⟨q,m,t,l,p,N,λ_=>rfl,λ_=>rfl,(λh=>jq h Y),(λh=>jq h Y),n⟩,r,s⟩
  ·obtain rfl:i=6:=ak H.symm
   obtain⟨q,m,t,l,p,rfl,D,E,K,M,n⟩:=C Y;obtain rfl:=D Y;refine⟨_,ja p,N,.inl ⟨by rfl,λF hS=>.inl (by go_simp;try with_reducible rfl)⟩,?_⟩;exact⟨T39,T40,_,_,T42,_,T44,T4,T5,N,b,λ_=>u Y,λ_=>x Y,λ_=>⟨q,m,t,l,p,N,λ_=>rfl,λ_=>E Y,λ_=>rfl,(λh=>jq h Y),n⟩,r,s⟩
  ·obtain rfl:i=7:=ak H.symm
   obtain⟨q,m,t,l,p,rfl,D,E,K,M,n⟩:=C Y;obtain rfl:=D Y;refine⟨_,.bool jh,N,.inl ⟨by rfl,λF hS=>.inl (by go_simp;try with_reducible rfl)⟩,?_⟩;exact⟨T39,T40,_,_,T42,T43,_,T4,T5,N,b,λ_=>u Y,λ_=>x Y,λ_=>⟨q,m,t,l,p,N,λ_=>rfl,λ_=>E Y,λ_=>K Y,λ_=>rfl,n⟩,r,s⟩
  simp at H
 case hCR2=>
  rintro j i H b1 b2 a W ⟨T39,T40,T41,T37,T42,T43,T44,T4,T5,rfl,b,u,x,C,r,s⟩
  rcases j with _ |_ |_ |_ |_ |_ |_ |j
  ·obtain rfl:i=1:=ak H.symm
   refine jK (o:=_) N (λV B=>?_);go_simp;refine(Vr W).mono ?_;rintro e F ⟨rfl,c⟩;exact B _ _ ⟨_,T40,T41,T37,T42,T43,T44,T4,T5,N,b.trans (c.mono b.size),λ_=>rfl,(λh=>jq h Y),(λh=>jq h Y),r.keep c,s.keep c⟩
  ·obtain rfl:i=2:=ak H.symm
   obtain rfl:=u Y;refine jK (o:=_) N (λV B=>?_);rw[jC aj];refine RCg.wp_build (.tmp 39) N (ja E0) N Wz ?_;have c:=ao W (jn E0 RCg.e);exact B _ _ ⟨_,_,T41,T37,T42,T43,T44,T4,T5,N,b.trans (c.mono b.size),λ_=>rfl,λ_=>uO (jF W _) Wz,(λh=>jq h Y),r.keep c,s.keep c⟩
  ·obtain rfl:i=3:=ak H.symm
   have ad:=x Y;obtain rfl:=u Y;clear x;refine jK (o:=_) N (λV B=>?_);go_simp;refine(VL W _ ((f.below b).tab) ((f.below b).grp ((aC (aI 3) bF),m1,t1) ar) ad).mono ?_;rintro e F ⟨q,m,t,l,p,hP⟩;obtain rfl:=hP.ret;have c:=hP.bel;exact B _ _ ⟨_,T40,_,T37,T42,T43,T44,T4,T5,N,b.trans (c.mono b.size),λ_=>rfl,λ_=>(ad.keep λk g=>c.block k g).mono λk (g:k<W.heap.size)=>ju g c.size,λ_=>⟨q,m,t,l,p,N,(λh=>jq h Y),(λh=>jq h Y),(λh=>jq h Y),(λh=>jq h Y),fA.of hP b.size (λk g=>r.ne g) (λk g=>s.ne g)⟩,r.keep c,s.keep c⟩
  iterate 5 (·simp at H)
 rintro a W ⟨T39,T40,T41,T37,T42,T43,T44,T4,T5,rfl,b,u,x,C,r,s⟩;obtain⟨q2,m2,t2,aa,Q,rfl,D,E,K,M,n⟩:=C L;obtain rfl:=D L;obtain rfl:=E L;obtain rfl:=K L;obtain rfl:=M L;obtain⟨C2,rfl,hC,ax⟩:=r.1 N;obtain⟨K2,rfl,B,ay⟩:=s.1 N;obtain⟨a1,y,hy,y1,y2,y3,y4,y5⟩:=n.end b hC ax B ay;have a2:=(f.below b).blk (B1+1,R,VG.t) ar;have a3:=(f.below y5).blk (B1+1,R,VG.t) ar;have a6:=O n.csz;have bf:=O n.gsz;have bi:=O n.ac;have bl:=O n.ag;have a4:B1+1≠C2:=λe=>by have h:=(jN.1 (f.blk (B1+1,R,VG.t) ar)).1;dsimp only at h;omega
 replace f:=O ((((f.below y5).made y3 (λk h=>h) y4).block y2).block y1);refine aF N (λV Vf=>?_);rw[jC aj];refine jZ VC.t _ _ N C2 aa N N VC.t VC.Z hC (by rw[a6];exact VC.hi) (VC.hZ.trans a6.symm) n.cone ?_;refine Vf _ _ ((jJ W C2 _ aa a4).trans a2) λ_=>?_
 clear Vf;refine G ?_;refine aF N (λV Vf=>?_);rw[jC aj];refine jZ VG.t _ _ N K2 Q N N VG.t VG.Z a1 (by rw[bf];exact VG.hi) (VG.hZ.trans bf.symm) n.gone ?_;rw[<-hy];refine Vf _ _ a3 λ_=>?_
 clear Vf hC ax B ay b u x C D E K M n r s a1 hy y1 y2 y3 y4 y5 a2 a3 a4 HX;refine G ?_;refine aO ?_;refine nv ?_;obtain⟨x5,z⟩:=J y;rw[<-z]at f⊢;clear z
 go_upto_region 3 with fail
 clear VL Vr Wz au bb;have Wy:jc (∀(W:jj) (vl:jd),gJ W->bL W (aC (aC (aI 3) bF) bS) m2 t2->aG (·<W.heap.size) W vl 5 1 F1.toList->jr jp 13 #[ja Q,jf jg 0,jf .u8 3,vl] W λe w'=>∃q vm vt l AG,gZ (aC (aC (aI 3) bF) bS) cS3 W w' e q vm vt l AG):=O (λW vl P hg hs=>by
  rw[a5]at hs;exact vC (d:=0) L 3#8 wh.2.2.1 N DY lC.2.2.1 bl hg P hs)
 have b:=bV x5;obtain⟨x6,z⟩:=J x5.drew;have HX:=O z;rw[<-z]at b;replace f:=O (f.below b);clear z b;refine j6 ?_;refine uo (λF=>F.heap[K2]?=jb (jn Q VG.t (0,0))) [0] [(1,js),(2,js),(3,js),(4,jh),(5,jh),(6,jh),(7,jh)] 8 9 (.o 10 (.o 11 (.t 12 .done))) (OB x6 (.bool js) (ptr B1) (ptr (B1+1)) (.bool jh) (ptr C2) (ptr K2) (.bool jh) (jw #[ja S,ja R,.bool jh]) (ja ba) (ja E1) (jk (jb ⟨x1,0,jm⟩) 1 1) (jw #[ja S,ja R,.bool jh]) (ja S) (ja R) (.bool jh) (jw #[ja aa,ja Q,.bool jh]) (ja R) (T39) (T40) (jw #[ja aa,ja Q,.bool jh]) (ja aa) (ja Q) (.bool jh) Q F1 (aC (aC (aI 3) bF) bS) cS3) af af af af af L (λ_ _ _ _ h=>h) (by rw[<-HX];exact f.blk (_,_,_) ar) ?hIR3 ?hTR3 ?hCR3 ?h1R3 ?h2R3 ?hER3 ?h0R3
 case hIR3=>
  rintro j b1 b2 a W ⟨T47,T48,T49,T45,T50,T51,T52,T7,T8,rfl,b,u,x,C,r,s⟩;exact av (f.blk (_,_,_) ar) b
 case h1R3=>
  rintro j b2 a W ⟨T47,T48,T49,T45,T50,T51,T52,T7,T8,rfl,b,u,x,C,r,s⟩;refine jK (o:=_) N (λV B=>?_);rw[jC aj];refine gM VC.t N VC.Z VC.hal ?_;have c:=ao W (jn VC.Z VC.t);refine B _ _ ⟨T47,T48,T49,T45,T50,T51,T52,ptr W.heap.size,T8,N,b.trans (c.mono b.size),u,(λe=>((x e).keep λk g=>c.block k g).mono λk (g:k<W.heap.size)=>ju g c.size),λe=>?_,⟨λ_=>⟨_,N,jF _ _,b.size⟩,λh=>(by cases h)⟩,s.keep c⟩;obtain⟨q,m,t,l,p,X,D,E,K,M,n⟩:=C e;exact⟨q,m,t,l,p,X,D,E,K,M,(n.c (jA _)).keep c⟩
 case h2R3=>
  rintro j b1 a W ⟨T47,T48,T49,T45,T50,T51,T52,T7,T8,rfl,b,u,x,C,r,s⟩;refine jK (o:=_) N (λV B=>?_);rw[jC aj];refine gM VG.t N VG.Z VG.hal ?_;have c:=ao W (jn VG.Z VG.t);refine B _ _ ⟨T47,T48,T49,T45,T50,T51,T52,T7,ptr W.heap.size,N,b.trans (c.mono b.size),u,(λe=>((x e).keep λk g=>c.block k g).mono λk (g:k<W.heap.size)=>ju g c.size),λe=>?_,r.keep c,⟨λ_=>⟨_,N,jF _ _,b.size⟩,λh=>(by cases h)⟩⟩;obtain⟨q,m,t,l,p,X,D,E,K,M,n⟩:=C e;exact⟨q,m,t,l,p,X,D,E,K,M,(n.g (jA _)).keep c⟩
 case h0R3=>
  rw[<-HX]
  (refine nH (v:=ja Q) N aj (λF hS=>dc VG.hu VG.hd (by rw[bf];exact VG.hi) N N hS) ?_;refine G ?_)
  exact⟨I,I,I,I,I,I,I,I,I,N,jI _ _,λh=>jq h L,λh=>jq h L,λh=>jq h L,⟨λh=>(by cases h),λ_=>rfl⟩,⟨λh=>(by cases h),λ_=>rfl⟩⟩
 case hTR3=>
  rintro j i H b1 b2 a W ⟨T47,T48,T49,T45,T50,T51,T52,T7,T8,rfl,b,u,x,C,r,s⟩
  rcases j with _ |_ |_ |_ |_ |_ |_ |j
  iterate 3 (·simp at H)
  ·obtain rfl:i=4:=ak H.symm
   obtain⟨q,m,t,l,p,X,D,E,K,M,n⟩:=C Y;refine⟨_,T49,N,.inl ⟨by rfl,λF hS=>.inl (by go_simp;try with_reducible rfl)⟩,?_⟩;exact⟨T47,T48,T49,T49,T50,T51,T52,T7,T8,N,b,λ_=>u Y,λ_=>x Y,λ_=>⟨q,m,t,l,p,X,λ_=>rfl,(λh=>jq h Y),(λh=>jq h Y),(λh=>jq h Y),n⟩,r,s⟩
  ·obtain rfl:i=5:=ak H.symm
   obtain⟨q,m,t,l,p,rfl,D,E,K,M,n⟩:=C Y;obtain rfl:=D Y;refine⟨_,ja l,N,.inl ⟨by rfl,λF hS=>.inl (by go_simp;try with_reducible rfl)⟩,?_⟩;exact⟨T47,T48,_,_,_,T51,T52,T7,T8,N,b,λ_=>u Y,λ_=>x Y,λ_=>⟨q,m,t,l,p,N,λ_=>rfl,λ_=>rfl,(λh=>jq h Y),(λh=>jq h Y),n⟩,r,s⟩
  ·obtain rfl:i=6:=ak H.symm
   obtain⟨q,m,t,l,p,rfl,D,E,K,M,n⟩:=C Y;obtain rfl:=D Y;refine⟨_,ja p,N,.inl ⟨by rfl,λF hS=>.inl (by go_simp;try with_reducible rfl)⟩,?_⟩;exact⟨T47,T48,_,_,T50,_,T52,T7,T8,N,b,λ_=>u Y,λ_=>x Y,λ_=>⟨q,m,t,l,p,N,λ_=>rfl,λ_=>E Y,λ_=>rfl,(λh=>jq h Y),n⟩,r,s⟩
  ·obtain rfl:i=7:=ak H.symm
   obtain⟨q,m,t,l,p,rfl,D,E,K,M,n⟩:=C Y;obtain rfl:=D Y;refine⟨_,.bool jh,N,.inl ⟨by rfl,λF hS=>.inl (by go_simp;try with_reducible rfl)⟩,?_⟩;exact⟨T47,T48,_,_,T50,T51,_,T7,T8,N,b,λ_=>u Y,λ_=>x Y,λ_=>⟨q,m,t,l,p,N,λ_=>rfl,λ_=>E Y,λ_=>K Y,λ_=>rfl,n⟩,r,s⟩
  simp at H
 case hCR3=>
  rintro j i H b1 b2 a W ⟨T47,T48,T49,T45,T50,T51,T52,T7,T8,rfl,b,u,x,C,r,s⟩
  rcases j with _ |_ |_ |_ |_ |_ |_ |j
  ·obtain rfl:i=1:=ak H.symm
   refine jK (o:=_) N (λV B=>?_);go_simp;refine(UQ W).mono ?_;rintro e F ⟨rfl,c⟩;exact B _ _ ⟨_,T48,T49,T45,T50,T51,T52,T7,T8,N,b.trans (c.mono b.size),λ_=>rfl,(λh=>jq h Y),(λh=>jq h Y),r.keep c,s.keep c⟩
  ·obtain rfl:i=2:=ak H.symm
   obtain rfl:=u Y;refine jK (o:=_) N (λV B=>?_);rw[jC aj];refine RCg.wp_build (.tmp 47) N (ja F1) N ZY ?_;have c:=ao W (jn F1 RCg.e);exact B _ _ ⟨_,_,T49,T45,T50,T51,T52,T7,T8,N,b.trans (c.mono b.size),λ_=>rfl,λ_=>uO (jF W _) ZY,(λh=>jq h Y),r.keep c,s.keep c⟩
  ·obtain rfl:i=3:=ak H.symm
   have ad:=x Y;obtain rfl:=u Y;clear x;refine jK (o:=_) N (λV B=>?_);go_simp;refine(Wy W _ ((f.below b).tab) ((f.below b).grp ((aC (aC (aI 3) bF) bS),m2,t2) ar) ad).mono ?_;rintro e F ⟨q,m,t,l,p,hP⟩;obtain rfl:=hP.ret;have c:=hP.bel;exact B _ _ ⟨_,T48,_,T45,T50,T51,T52,T7,T8,N,b.trans (c.mono b.size),λ_=>rfl,λ_=>(ad.keep λk g=>c.block k g).mono λk (g:k<W.heap.size)=>ju g c.size,λ_=>⟨q,m,t,l,p,N,(λh=>jq h Y),(λh=>jq h Y),(λh=>jq h Y),(λh=>jq h Y),fA.of hP b.size (λk g=>r.ne g) (λk g=>s.ne g)⟩,r.keep c,s.keep c⟩
  iterate 5 (·simp at H)
 rintro a W ⟨T47,T48,T49,T45,T50,T51,T52,T7,T8,rfl,b,u,x,C,r,s⟩;obtain⟨q3,m3,t3,au,AG3,rfl,D,E,K,M,n⟩:=C L;obtain rfl:=D L;obtain rfl:=E L;obtain rfl:=K L;obtain rfl:=M L;obtain⟨C3,rfl,hC,ax⟩:=r.1 N;obtain⟨K3,rfl,B,ay⟩:=s.1 N;obtain⟨a1,y,hy,y1,y2,y3,y4,y5⟩:=n.end b hC ax B ay;have a2:=(f.below b).blk (K2,Q,VG.t) ar;have a3:=(f.below y5).blk (K2,Q,VG.t) ar;have bb:=O n.csz;have bm:=O n.gsz;have bn:=O n.ac;have b0:=O n.ag;have a4:K2≠C3:=λe=>by have h:=(jN.1 (f.blk (K2,Q,VG.t) ar)).1;dsimp only at h;omega
 replace f:=O ((((f.below y5).made y3 (λk h=>h) y4).block y2).block y1);refine aF N (λV Vf=>?_);rw[jC aj];refine jZ VC.t _ _ N C3 au N N VC.t VC.Z hC (by rw[bb];exact VC.hi) (VC.hZ.trans bb.symm) n.cone ?_;refine Vf _ _ ((jJ W C3 _ au a4).trans a2) λ_=>?_
 clear Vf;refine G ?_;refine aF N (λV Vf=>?_);rw[jC aj];refine jZ VG.t _ _ N K3 AG3 N N VG.t VG.Z a1 (by rw[bm];exact VG.hi) (VG.hZ.trans bm.symm) n.gone ?_;rw[<-hy];refine Vf _ _ a3 λ_=>?_
 clear Vf hC ax B ay b u x C D E K M n r s a1 hy y1 y2 y3 y4 y5 a2 a3 a4 HX;refine G ?_;refine aO ?_;refine nv ?_;obtain⟨x7,z⟩:=J y;rw[<-z]at f⊢;clear z
 go_upto_region 4 with fail
 clear Wy UQ ZY a5;have bo:jc (∀(W:jj) (vl:jd),gJ W->bL W (aC (aC (aI 3) bF) bS) m2 t2->aG (·<W.heap.size) W vl 5 1 F0.toList->jr jp 13 #[ja Q,jf jg 1,jf .u8 4,vl] W λe w'=>∃q vm vt l AG,gZ (aC (aC (aI 3) bF) bS) cM W w' e q vm vt l AG):=O (λW vl P hg hs=>by
  rw[bk]at hs;exact vC (d:=1) L 4#8 wh.2.2.2 N mR lC.2.2.2 bl hg P hs)
 have b:=bV x7;obtain⟨x8,z⟩:=J x7.drew;have HX:=O z;rw[<-z]at b;replace f:=O (f.below b);clear z b;refine j6 ?_;refine uo (λF=>F.heap[K2]?=jb (jn Q VG.t (0,0))) [0] [(1,js),(2,js),(3,js),(4,jh),(5,jh),(6,jh),(7,jh)] 8 9 (.o 10 (.o 11 (.t 12 .done))) (Ji x8 (.bool js) (ptr B1) (ptr (B1+1)) (.bool jh) (ptr C2) (ptr K2) (.bool jh) (ptr C3) (ptr K3) (.bool jh) (jw #[ja S,ja R,.bool jh]) (ja ba) (ja E1) (jk (jb ⟨x1,0,jm⟩) 1 1) (jw #[ja S,ja R,.bool jh]) (ja S) (ja R) (.bool jh) (jw #[ja aa,ja Q,.bool jh]) (ja R) (T39) (T40) (jw #[ja aa,ja Q,.bool jh]) (ja aa) (ja Q) (.bool jh) (jw #[ja au,ja AG3,.bool jh]) (ja Q) (T47) (T48) (jw #[ja au,ja AG3,.bool jh]) (ja au) (ja AG3) (.bool jh) Q F0 (aC (aC (aI 3) bF) bS) cM) af af af af af L (λ_ _ _ _ h=>h) (by rw[<-HX];exact f.blk (_,_,_) ar) ?hIR4 ?hTR4 ?hCR4 ?h1R4 ?h2R4 ?hER4 ?h0R4
 case hIR4=>
  rintro j b1 b2 a W ⟨T55,T56,T57,T53,T58,T59,T60,T10,WE,rfl,b,u,x,C,r,s⟩;exact av (f.blk (_,_,_) ar) b
 case h1R4=>
  rintro j b2 a W ⟨T55,T56,T57,T53,T58,T59,T60,T10,WE,rfl,b,u,x,C,r,s⟩;refine jK (o:=_) N (λV B=>?_);rw[jC aj];refine gM VC.t N VC.Z VC.hal ?_;have c:=ao W (jn VC.Z VC.t);refine B _ _ ⟨T55,T56,T57,T53,T58,T59,T60,ptr W.heap.size,WE,N,b.trans (c.mono b.size),u,(λe=>((x e).keep λk g=>c.block k g).mono λk (g:k<W.heap.size)=>ju g c.size),λe=>?_,⟨λ_=>⟨_,N,jF _ _,b.size⟩,λh=>(by cases h)⟩,s.keep c⟩;obtain⟨q,m,t,l,p,X,D,E,K,M,n⟩:=C e;exact⟨q,m,t,l,p,X,D,E,K,M,(n.c (jA _)).keep c⟩
 case h2R4=>
  rintro j b1 a W ⟨T55,T56,T57,T53,T58,T59,T60,T10,WE,rfl,b,u,x,C,r,s⟩;refine jK (o:=_) N (λV B=>?_);rw[jC aj];refine gM VG.t N VG.Z VG.hal ?_;have c:=ao W (jn VG.Z VG.t);refine B _ _ ⟨T55,T56,T57,T53,T58,T59,T60,T10,ptr W.heap.size,N,b.trans (c.mono b.size),u,(λe=>((x e).keep λk g=>c.block k g).mono λk (g:k<W.heap.size)=>ju g c.size),λe=>?_,r.keep c,⟨λ_=>⟨_,N,jF _ _,b.size⟩,λh=>(by cases h)⟩⟩;obtain⟨q,m,t,l,p,X,D,E,K,M,n⟩:=C e;exact⟨q,m,t,l,p,X,D,E,K,M,(n.g (jA _)).keep c⟩
 case h0R4=>
  rw[<-HX]
  (refine nH (v:=ja Q) N aj (λF hS=>dc VG.hu VG.hd (by rw[bf];exact VG.hi) N N hS) ?_;refine G ?_)
  exact⟨I,I,I,I,I,I,I,I,I,N,jI _ _,λh=>jq h L,λh=>jq h L,λh=>jq h L,⟨λh=>(by cases h),λ_=>rfl⟩,⟨λh=>(by cases h),λ_=>rfl⟩⟩
 case hTR4=>
  rintro j i H b1 b2 a W ⟨T55,T56,T57,T53,T58,T59,T60,T10,WE,rfl,b,u,x,C,r,s⟩
  rcases j with _ |_ |_ |_ |_ |_ |_ |j
  iterate 3 (·simp at H)
  ·obtain rfl:i=4:=ak H.symm
   obtain⟨q,m,t,l,p,X,D,E,K,M,n⟩:=C Y;refine⟨_,T57,N,.inl ⟨by rfl,λF hS=>.inl (by go_simp;try with_reducible rfl)⟩,?_⟩;exact⟨T55,T56,T57,T57,T58,T59,T60,T10,WE,N,b,λ_=>u Y,λ_=>x Y,λ_=>⟨q,m,t,l,p,X,λ_=>rfl,(λh=>jq h Y),(λh=>jq h Y),(λh=>jq h Y),n⟩,r,s⟩
  ·obtain rfl:i=5:=ak H.symm
   obtain⟨q,m,t,l,p,rfl,D,E,K,M,n⟩:=C Y;obtain rfl:=D Y;refine⟨_,ja l,N,.inl ⟨by rfl,λF hS=>.inl (by go_simp;try with_reducible rfl)⟩,?_⟩;exact⟨T55,T56,_,_,_,T59,T60,T10,WE,N,b,λ_=>u Y,λ_=>x Y,λ_=>⟨q,m,t,l,p,N,λ_=>rfl,λ_=>rfl,(λh=>jq h Y),(λh=>jq h Y),n⟩,r,s⟩
  ·obtain rfl:i=6:=ak H.symm
   obtain⟨q,m,t,l,p,rfl,D,E,K,M,n⟩:=C Y;obtain rfl:=D Y;refine⟨_,ja p,N,.inl ⟨by rfl,λF hS=>.inl (by go_simp;try with_reducible rfl)⟩,?_⟩;exact⟨T55,T56,_,_,T58,_,T60,T10,WE,N,b,λ_=>u Y,λ_=>x Y,λ_=>⟨q,m,t,l,p,N,λ_=>rfl,λ_=>E Y,λ_=>rfl,(λh=>jq h Y),n⟩,r,s⟩
  ·obtain rfl:i=7:=ak H.symm
   obtain⟨q,m,t,l,p,rfl,D,E,K,M,n⟩:=C Y;obtain rfl:=D Y;refine⟨_,.bool jh,N,.inl ⟨by rfl,λF hS=>.inl (by go_simp;try with_reducible rfl)⟩,?_⟩;exact⟨T55,T56,_,_,T58,T59,_,T10,WE,N,b,λ_=>u Y,λ_=>x Y,λ_=>⟨q,m,t,l,p,N,λ_=>rfl,λ_=>E Y,λ_=>K Y,λ_=>rfl,n⟩,r,s⟩
  simp at H
 case hCR4=>
  rintro j i H b1 b2 a W ⟨T55,T56,T57,T53,T58,T59,T60,T10,WE,rfl,b,u,x,C,r,s⟩
  rcases j with _ |_ |_ |_ |_ |_ |_ |j
  ·obtain rfl:i=1:=ak H.symm
   refine jK (o:=_) N (λV B=>?_);go_simp;refine(U0 W).mono ?_;rintro e F ⟨rfl,c⟩;exact B _ _ ⟨_,T56,T57,T53,T58,T59,T60,T10,WE,N,b.trans (c.mono b.size),λ_=>rfl,(λh=>jq h Y),(λh=>jq h Y),r.keep c,s.keep c⟩
  ·obtain rfl:i=2:=ak H.symm
   obtain rfl:=u Y;refine jK (o:=_) N (λV B=>?_);rw[jC aj];refine RCg.wp_build (.tmp 55) N (ja F0) N bg ?_;have c:=ao W (jn F0 RCg.e);exact B _ _ ⟨_,_,T57,T53,T58,T59,T60,T10,WE,N,b.trans (c.mono b.size),λ_=>rfl,λ_=>uO (jF W _) bg,(λh=>jq h Y),r.keep c,s.keep c⟩
  ·obtain rfl:i=3:=ak H.symm
   have ad:=x Y;obtain rfl:=u Y;clear x;refine jK (o:=_) N (λV B=>?_);go_simp;refine(bo W _ ((f.below b).tab) ((f.below b).grp ((aC (aC (aI 3) bF) bS),m2,t2) ar) ad).mono ?_;rintro e F ⟨q,m,t,l,p,hP⟩;obtain rfl:=hP.ret;have c:=hP.bel;exact B _ _ ⟨_,T56,_,T53,T58,T59,T60,T10,WE,N,b.trans (c.mono b.size),λ_=>rfl,λ_=>(ad.keep λk g=>c.block k g).mono λk (g:k<W.heap.size)=>ju g c.size,λ_=>⟨q,m,t,l,p,N,(λh=>jq h Y),(λh=>jq h Y),(λh=>jq h Y),(λh=>jq h Y),fA.of hP b.size (λk g=>r.ne g) (λk g=>s.ne g)⟩,r.keep c,s.keep c⟩
  iterate 5 (·simp at H)
 rintro a W ⟨T55,T56,T57,T53,T58,T59,T60,T10,WE,rfl,b,u,x,C,r,s⟩;obtain⟨q4,m4,t4,a5,bp,rfl,D,E,K,M,n⟩:=C L;obtain rfl:=D L;obtain rfl:=E L;obtain rfl:=K L;obtain rfl:=M L;obtain⟨C4,rfl,hC,ax⟩:=r.1 N;obtain⟨K4,rfl,B,ay⟩:=s.1 N;obtain⟨a1,y,hy,y1,y2,y3,y4,y5⟩:=n.end b hC ax B ay;have a2:=(f.below b).blk (K2,Q,VG.t) ar;have a3:=(f.below y5).blk (K2,Q,VG.t) ar;have bc:=O n.csz;have bq:=O n.gsz;have br:=O n.ac;have b1:=O n.ag;have a4:K2≠C4:=λe=>by have h:=(jN.1 (f.blk (K2,Q,VG.t) ar)).1;dsimp only at h;omega
 replace f:=O ((((f.below y5).made y3 (λk h=>h) y4).block y2).block y1);refine aF N (λV Vf=>?_);rw[jC aj];refine jZ VC.t _ _ N C4 a5 N N VC.t VC.Z hC (by rw[bc];exact VC.hi) (VC.hZ.trans bc.symm) n.cone ?_;refine Vf _ _ ((jJ W C4 _ a5 a4).trans a2) λ_=>?_
 clear Vf;refine G ?_;refine aF N (λV Vf=>?_);rw[jC aj];refine jZ VG.t _ _ N K4 bp N N VG.t VG.Z a1 (by rw[bq];exact VG.hi) (VG.hZ.trans bq.symm) n.gone ?_;rw[<-hy];refine Vf _ _ a3 λ_=>?_
 clear Vf hC ax B ay b u x C D E K M n r s a1 hy y1 y2 y3 y4 y5 a2 a3 a4 HX;refine G ?_;refine aO ?_;refine nv ?_;obtain⟨x9,z⟩:=J y;rw[<-z]at f⊢;clear z
 go_upto_region 5 with fail
 clear bo U0 bg bk
 go_upto_region 6 with(first|(refine VC.loadA aj N N au bb (f.blk (C3,au,VC.t) ar) (G ?_))|(refine VC.loadA aj N N aa a6 (f.blk (C2,aa,VC.t) ar) (G ?_))|(refine VC.loadA aj N N a5 bc (f.blk (C4,a5,VC.t) ar) (G ?_))|(refine VC.loadA aj N N S bd (f.blk (B1,S,VC.t) ar) (G ?_))|(refine RCm.four N _ _ _ _ N au aa a5 S N N N N bb a6 bc bd (G ?_)))
 obtain⟨bv,t,z,U,c,b⟩:=dh x9 (au.toList++(aa.toList++(a5.toList++S.toList))).toArray RCm.e;rw[<-z,<-U];obtain⟨LS,m⟩:∃l:ji CP,l=[(cS3,q3),(bS,q2),(cM,q4),(bF,q1)]:=⟨_,N⟩;have q:jc (cA bv (jk (jb ⟨t,0,jm⟩) 4 4) LS):=O (by
  rw[m];refine⟨⟨?_,_,4,N,jA _,(λe=>by cases e),λ_=>⟨t,0,N,(jN.1 c).1,λj ax hj=>?_⟩⟩,λp F=>(f.below b).com p (by rcases(by simpa using F:p=(cS3,q3)\/p=(bS,q2)\/p=(cM,q4)\/p=(bF,q1))with h|h|h|h<;>simp[h])⟩
  ·have V:(aE cS3 q3).length=73:=by have h:=bb.out;rw[bn,jD]at h;exact h
   have X:(aE bS q2).length=73:=by have h:=a6.out;rw[bi,jD]at h;exact h
   have e3:(aE cM q4).length=73:=by have h:=bc.out;rw[br,jD]at h;exact h
   have e4:(aE bF q1).length=73:=by have h:=bd.out;rw[bh,jD]at h;exact h
   simp only[j8,qe,j0,List.length_nil,sQ,V,X,e3,e4]
   rfl
  have h:=c.out;rw[bn,bi,br,bh]at h;refine ai h ?_
  simpa [sQ]using hj)
 have a1:=O m;replace f:=O (f.below b);clear z U b c m;obtain⟨I1,F⟩:=J (((aH bF).map v8).toArray);have WI:jc (I1.size=32):=O (by rw[F,jD,jy,dQ]);have ay:jc (∀W,SSt w [(C4,a5,VC.t),(K4,bp,VG.t),(C3,au,VC.t),(K3,AG3,VG.t),(C2,aa,VC.t),(K2,Q,VG.t),(B1,S,VC.t),(B1+1,R,VG.t)] [(cM,q4),(cS3,q3),(bS,q2),(bF,q1)] [(aC (aC (aC (aI 3) bF) bS) cM,m4,t4),(aC (aC (aC (aI 3) bF) bS) cS3,m3,t3),(aC (aC (aI 3) bF) bS,m2,t2),(aC (aI 3) bF,m1,t1)] W->jr jp 16 #[ja S] W λe w'=>e=jt (ja I1)/\jo W W w'):=O (λW c=>by
  rw[bh,F];exact ta bF q1 W (c.com (bF,q1) ar) lC.1 c.tab.s.dig)
 obtain⟨m,V⟩:=J (#[jz .i64 3]++I1);have X:jc (m=(c8 3 (aH bF)).toArray):=O (by rw[V,F];unfold c8;simp);have a2:=O V;have ZH:jc (m.size=VF.n):=O (by rw[X,jD];unfold c8;rw[qC,jy,dQ];rfl);have ZY:jc (m.all (·.oneCell')=jh):=O (by
  rw[X,jS];intro ax c;simp only[c8,qF,jT]at c
  rcases c with rfl|c
  ·rfl
  exact iu _ ax c)
 clear F V
 go_wp2_with (refine VC.loadA aj N N S bd (f.blk (B1,S,VC.t) ar) (G ?_))
 refine(ay _ f.out).mono ?_;rintro e bw ⟨rfl,b⟩;replace f:=O (f.below b);replace q:=O (q.below b);clear b ay
 go_upto_region 7 with(first|(refine ei (v:=ja m) aj (by rw[a2];exact O1 WI N N _) ?_;refine G ?_)|(refine VF.made N N (G ?_))|(refine VF.first N N N m N ZH ZY (G ?_)))
 obtain⟨b2,F,z,U,V,b⟩:=dh bw m VF.t;rw[<-z,<-U];replace f:=O (((f.below b)).block V);replace q:=O (q.below b);clear z U b V a2 ZY WI;have Vy:jc (∀W,cA W (jk (jb ⟨t,0,jm⟩) 4 4) LS->bH W->jr jp 6 #[ja m,(jk (jb ⟨t,0,jm⟩) 4 4)] W λe w'=>∃p1 V p2 c2,e=jt (jw #[jk p1 3 V,jk p2 3 c2])/\
  aG (·<w'.heap.size) w' (jk p1 3 V) 1 3 [jf jg 3,jf jg 1,jf jg 2]/\jo W W w'):=O (λW h P=>by
   rw[X];rw[a1]at h;exact NV _ W h P)
 go_wp2_with (refine VF.loadA aj N N m ZH (f.blk (F,m,VF.t) ar) (G ?_))
 refine(Vy _ q.out f.tab.s.dig).mono ?_;rintro e b3 ⟨pa,ka,pg,kg,rfl,ad,b⟩;replace f:=O (f.below b);replace q:=O (q.below b);have Vl:=O ad;clear b ad Vy
 go_upto_region 8 with fail
 have VO:jc (∀W,cA W (jk (jb ⟨t,0,jm⟩) 4 4) LS->bH W->jr jp 17 #[ja m,(jk (jb ⟨t,0,jm⟩) 4 4)] W λe w'=>∃p1 V u2,e=jt (jw #[jk p1 4 V,u2])/\
  aG (·<w'.heap.size) w' (jk p1 4 V) 1 4 [jf jg 3,jf jg 1,jf jg 2,jf jg 0]/\jo W W w'):=O (λW h P=>by
   rw[X];rw[a1]at h;exact QX _ W h P)
 go_wp2_with (refine VF.loadA aj N N m ZH (f.blk (F,m,VF.t) ar) (G ?_))
 refine(VO _ q.out f.tab.s.dig).mono ?_;rintro e b4 ⟨pl,kl,ul,rfl,ad,b⟩;replace f:=O (f.below b);replace q:=O (q.below b);replace Vl:=O ((Vl.keep λk g=>b.block k g).mono λk g=>ju g b.size);have ay:=O ad;clear b ad VO
 go_upto_region 9 with fail
 have bg:jc (∀W,cA W (jk (jb ⟨t,0,jm⟩) 4 4) LS->bH W->jr jp 12 #[ja m,(jk (jb ⟨t,0,jm⟩) 4 4)] W λe w'=>∃vm vt,e=jt (jw #[ja (aB (aC cU cM) vm vt).toArray,.bool jh])/\bL w' (aC cU cM) vm vt/\jo W W w'):=O (λW h P=>by
  rw[X];rw[a1]at h;exact Ll _ W h P)
 go_wp2_with (refine VF.loadA aj N N m ZH (f.blk (F,m,VF.t) ar) (G ?_))
 refine(bg _ q.out f.tab.s.dig).mono ?_;rintro e bA ⟨mn,tn,rfl,a3,b⟩;replace f:=O (f.below b);replace q:=O (q.below b);replace Vl:=O ((Vl.keep λk g=>b.block k g).mono λk g=>ju g b.size);replace ay:=O ((ay.keep λk g=>b.block k g).mono λk g=>ju g b.size);obtain⟨GN,a2⟩:=J ((aB (aC cU cM) mn tn).toArray);have bB:=O a2;have bC:jc (GN.size=VG.n):=O (by rw[a2,jD];exact eH a3.llen);have bk:jc (GN.all (·.oneCell')=jh):=O (by rw[a2,jS];exact λax c=>mc a3 ax (ak c));have a4:=O a3;rw[<-a2];clear b bg a2 a3
 go_upto_region 10 with(first|(refine VG.made N N (G ?_))|(refine VG.first N N N GN N bC bk (G ?_)))
 obtain⟨bI,NB,z,U,Z3,b⟩:=dh bA GN VG.t;rw[<-z,<-U];replace f:=O ((f.below b).block Z3);replace q:=O (q.below b);replace a4:=O (a4.below b);replace Vl:=O ((Vl.keep λk g=>b.block k g).mono λk g=>ju g b.size);replace ay:=O ((ay.keep λk g=>b.block k g).mono λk g=>ju g b.size);clear z U b Z3 bk;have c:jc (S5 w _ _ _ (jk (jb ⟨t,0,jm⟩) 4 4) LS (aC cU cM) mn tn (jk pa 3 ka) (jk pl 4 kl) bI):=O (S5.mk f q a4 Vl ay);clear f q a4 Vl ay;obtain⟨ZG,f⟩:=J ((aB ku vN vN).toArray);have a4:=O f;clear f
 go_wp2_with (refine ei (v:=ja ZG) aj (by rw[a4];exact Aa N _) ?_;refine G ?_)
 rw[a4];refine(Mq _ c.s.tab.s.dig).mono ?_;rintro e b5 ⟨rfl,b⟩;replace c:=O (c.below b);clear b
 go_upto_region 11 with fail
 have f:jc (∀W,bH W->jr jp 6 #[ja m,jk jm 0 0] W λe w'=>∃p1 V p2 c2,e=jt (jw #[jk p1 0 V,jk p2 0 c2])/\jo W W w'):=O (λW P=>by
  rw[X];exact I6 _ (dQ _) W P)
 go_wp2_with (refine VF.loadA aj N N m ZH (c.s.blk (F,m,VF.t) ar) (G ?_))
 refine(f _ c.s.tab.s.dig).mono ?_;rintro e b6 ⟨b7,b8,b9,ca,rfl,b⟩;replace c:=O (c.below b);clear b;clear f
 go_upto_region 12 with fail
 obtain⟨k,f⟩:=J (kP jm);have ay:jc (k.size=VG.n):=O (by rw[f];exact VG.hZ);have g:jc (k.all (·.oneCell')=jh):=O (by rw[f];kernel_rfl);have a2:jc (k=(aB ku vN vN).toArray):=O (by rw[f];rfl);have q:jc (∀W,bH W->jr jp 12 #[ja m,jk jm 0 0] W λe w'=>e=jt (jw #[ja k,.bool js])/\jo W W w'):=O (λW P=>by
  rw[X,f];exact OH _ (dQ _) W P)
 clear f
 go_wp2_with (refine VF.loadA aj N N m ZH (c.s.blk (F,m,VF.t) ar) (G ?_))
 refine(q _ c.s.tab.s.dig).mono ?_;rintro e bK ⟨rfl,b⟩;replace c:=O (c.below b);clear b;clear q
 go_upto_region 13 with(first|(refine VG.made N N (G ?_))|(refine VG.first N N N k N ay g (G ?_)))
 obtain⟨cb,ZB,z,U,bM,b⟩:=dh bK k VG.t;rw[<-z,<-U];replace c:=O (c.below b);replace c:=O (c.block bM);clear z U b;clear g;obtain⟨I2,q⟩:=J (((aH bS).map v8).toArray);have WV:jc (I2.size=32):=O (by rw[q,jD,jy,dQ]);have bg:jc (∀W,aW (·<W.heap.size) W bS q2->bH W->jr jp 16 #[ja aa] W λe w'=>e=jt (ja I2)/\jo W W w'):=O (λW h P=>by
  rw[bi,q];exact ta bS q2 W h lC.2.1 P)
 obtain⟨g,a3⟩:=J ((itC I2.toList 5).toArray);obtain⟨IL,bk⟩:=J ((itC I2.toList 6).toArray);have f:jc (ItP g (aH bS) 5/\ItP IL (aH bS) 6/\g.setIfInBounds 34 (jf jg 6)=IL):=O (by
  rw[a3,bk,q];exact⟨itP _ 5 (dQ _),itP _ 6 (dQ _),On _ 5 6 (by simp[dQ])⟩)
 have bo:=O a3;clear q a3 bk
 go_wp2_with (refine VC.loadA aj N N aa a6 (c.s.blk (C2,aa,VC.t) ar) (G ?_))
 refine(bg _ (c.s.com (bS,q2) ar) c.s.tab.s.dig).mono ?_;rintro e bN ⟨rfl,b⟩;replace c:=O (c.below b);clear b;clear bg
 go_upto_region 14 with(first|(refine ei (v:=ja g) aj (by rw[bo];exact ML WV N N _) ?_;refine G ?_)|(refine VIt.made N N (G ?_))|(refine VIt.first N N N g N f.1.sz f.1.one (G ?_)))
 obtain⟨a3,IB,z,U,bO,b⟩:=dh bN g VIt.t;rw[<-z,<-U];replace c:=O (c.below b);replace c:=O (c.block bO);clear z U b;clear bo WV
 go_upto_region 15 with(first|(refine VIt.loadA aj N N g f.1.sz (c.s.blk (IB,g,VIt.t) ar) (G ?_))|(refine VIt.made N N (G ?_))|(refine VIt.first N N N g N f.1.sz f.1.one (G ?_)))
 obtain⟨bT,NL,z,U,q,b⟩:=dh a3 g VIt.t;rw[<-z,<-U];have bg:a3.heap.size<=NL:=qo U.symm;clear z U;have U:=ai (i:=34) q f.1.ctr;have bo:=gt (o:=34) q;have Ut:=O b;have bk:=O bg;clear b bg
 go_upto_region 16 with fail
 clear U bo;have b:=Below.setCell Ut.out (p:=⟨NL,34,jm⟩) bk (jf jg 6);have U:=fs (i:=34) (jf jg 6) q;rw[f.2.2]at U;obtain⟨cc,z⟩:=J (bT.setCell ⟨NL,34,jm⟩ (jf jg 6));rw[<-z]at b U⊢;replace c:=O (c.below b);replace c:=O (c.block U);clear z b U Ut bk q;have q:jc (∀W,jr jp 10 #[ja k,ja k] W λe w'=>e=jt (.bool jh)/\jo W W w'):=O (λW=>by
  rw[a2];exact AB ku vN vN vN vN W (Cz W) (Cz W) L L)
 go_wp2_with (first|(refine VG.loadA aj N N k ay (c.s.blk (ZB,k,VG.t) ar) (G ?_))|(refine ei (v:=ja k) aj (by rw[a2];exact Aa N _) ?_;refine G ?_))
 refine(q _).mono ?_;rintro e U ⟨rfl,b⟩;replace c:=O (c.below b);clear b;clear q a2 ay
 go_upto_region 18 with fail
 have ay:jc (∀W ax,df W ax [3,1,2]->df W (jk pa 3 ka) [3,1,2]->jr jp 18 #[jk pa 3 ka,ax] W λe w'=>e=jt (.bool jh)/\jo W W w'):=O (λW ax u x=>by
  exact Ud [3,1,2] [3,1,2] _ _ W x u L L)
 obtain⟨-,cd,ce,q,-,-,ax⟩:=(show _ from c.al);obtain⟨gl,ol,a2,-,bg⟩:=ax L;obtain rfl:pl=jb ⟨gl,ol,jm⟩:=by injection q with e;rw[e,a2]
 have Vq:=O bg;obtain⟨pm,km,bk,-⟩:=c.gi.mem.form;rw[Ts oJ]at bk;subst bk;have Z3:jc (U.cell? ⟨NB,34,jm⟩=jb (jk pm 1 km)):=O (ai (c.s.blk (NB,GN,VG.t) ar) (by rw[bB,jV];exact(lP c.gi.llen).2.2.1));have bo:jc (∀W,cA W (jk (jb ⟨t,0,jm⟩) 4 4) LS->bH W->jr jp 19 #[ja m,(jk (jb ⟨t,0,jm⟩) 4 4),ja g] W λe w'=>e=jt (.bool jh)/\jo W W w'):=O (λW h P=>by
  rw[X];rw[a1]at h;exact Du _ W h P g 5 f.1.id f.1.dev f.1.ctr)
 have bs:jc (∀W,cA W (jk (jb ⟨t,0,jm⟩) 4 4) LS->bH W->jr jp 19 #[ja m,(jk (jb ⟨t,0,jm⟩) 4 4),ja IL] W λe w'=>e=jt (.bool js)/\jo W W w'):=O (λW h P=>by
  rw[X];rw[a1]at h;exact Du _ W h P IL 6 f.2.1.id f.2.1.dev f.2.1.ctr)
 have Vr:jc (∀W,bH W->jr jp 19 #[ja m,jk jm 0 0,ja g] W λe w'=>e=jt (.bool js)/\jo W W w'):=O (λW P=>by
  rw[X];exact J2 _ (dQ _) W P g (aH bS) (dQ _) 0 5 f.1.id f.1.dev f.1.ctr)
 clear ax bg q a2
 go_wp2_with fail
 have b:=ao U (jn #[jf jg 3,jf jg 1,jf jg 2] 3);have Uv:=jF U (jn #[jf jg 3,jf jg 1,jf jg 2] 3);obtain⟨P,z⟩:=J (U.alloc (jn #[jf jg 3,jf jg 1,jf jg 2] 3));obtain⟨I3,ax⟩:=J U.heap.size;rw[<-z,<-ax]at Uv⊢;rw[<-z]at b;have c0:P.cell? ⟨gl,ol,jm⟩=jb (jf jg 3):=aD (Vq 0 _ N) b;have V:P.cell? ⟨gl,ol+1,jm⟩=jb (jf jg 1):=aD (Vq 1 _ N) b;have c2:P.cell? ⟨gl,ol+2,jm⟩=jb (jf jg 2):=aD (Vq 2 _ N) b;have c3:P.cell? ⟨gl,ol+3,jm⟩=jb (jf jg 0):=aD (Vq 3 _ N) b;have c4:=aD Z3 b;replace c:=O (c.below b);have H:df P (jk (jb ⟨I3,0,jm⟩) 3 3) [3,1,2]:=⟨_,3,N,by decide,λ_=>⟨I3,0,rfl,λj hj=>by rw[qg];exact ai Uv (by match j,hj with|0,_=>rfl|1,_=>rfl|2,_=>rfl)⟩⟩;refine(ay P _ H (aG.ints (l:=[3,1,2]) c.at_)).mono ?_;rintro e a2 ⟨rfl,q⟩;replace c:=O (c.below q);replace c0:=aD c0 q;replace V:=aD V q;replace c2:=aD c2 q;replace c3:=aD c3 q;replace c4:=aD c4 q;clear b q H Uv z ax ay Vq Z3
 go_wp2_with (first|(refine VF.loadA aj N N m ZH (c.s.blk (F,m,VF.t) ar) (G ?_))|(refine VIt.loadA aj N N g f.1.sz (c.s.blk (IB,g,VIt.t) ar) (G ?_)))
 clear c0 V c2 c3 c4;refine(bo _ c.ci c.s.tab.s.dig).mono ?_;rintro e q ⟨rfl,b⟩;replace c:=O (c.below b);clear b;clear bo
 go_wp2_with (first|(refine VF.loadA aj N N m ZH (c.s.blk (F,m,VF.t) ar) (G ?_))|(refine VIt.loadA aj N N IL f.2.1.sz (c.s.blk (NL,IL,VIt.t) ar) (G ?_)))
 refine(bs _ c.ci c.s.tab.s.dig).mono ?_;rintro e z ⟨rfl,b⟩;replace c:=O (c.below b);clear b;clear bs
 go_wp2_with (first|(refine VF.loadA aj N N m ZH (c.s.blk (F,m,VF.t) ar) (G ?_))|(refine VIt.loadA aj N N g f.1.sz (c.s.blk (IB,g,VIt.t) ar) (G ?_)))
 refine(Vr _ c.s.tab.s.dig).mono ?_;rintro e ax ⟨rfl,b⟩;replace c:=O (c.below b);clear b;clear Vr
 go_wp2_with fail
 go_ret;exact⟨N,c.s.bel⟩
end
section
section
variable {P:ob} {ops:jv jO} {Q:Exit->Act->jj->Prop}
end
theorem LX{P:ob}{ops:jv jO}{Q:Exit->Act->jj->Prop}{S:jj->Prop}{i:jl}{o:jO}{r:bE}{a:Act}{w:jj}(b:ops[i]?=jb o)(c:Region.wanted o (yielded ops a.tmps)=js)(d:S w)(h:eE P ops Q S r (a.put o.dst I) w):eE P ops Q S (.o i r) a w:=
 aF b λf e=>by rw[if_neg (by rw[c];decide)];exact e _ _ d λ_=>h
end
def uW{H:Type}(a:ji (ji UInt8)):jM H:=.agg (a.map λz=>.lit (.string z))
theorem Pd{enc:jB×jd->H}{P:ob}{w:jj}{x:jl}{j:jl->Bool}{k:Bool}{m:jl}{n e:jB}{t:jl}{c:ji jd}{a:ji (ji UInt8)}{p:ji qd}
 (l:P.underlying n=jb (.array t e)) (he:P.underlying e=jb .string) (fuel:P.cellsOf e=1) (o:P.cellsOf n=t)
 (h:DataW.trod enc P w x j k m n c=jb (uW a,p)):c=a.map λz=>Value.string ⟨z.toArray⟩:=by
 rcases m with _|m
 ·simp[DataW.trod]at h
 simp only[DataW.trod,l,fuel,o,Nat.mul_one]at h
 split at h
 ·rename_i D
  obtain⟨xs,f,q⟩:=qP.1 h;have g:xs.map (·.1)=a.map λz=>(DataW.lit (.string z):jM H):=by
   have:=jH Prod.fst q
   simpa [uW]using this
  have E:xs.length=t:=by simpa using Lib.mapM_length f
  have F:a.length=t:=by
   have:=jH jY g;simp at this;omega
  apply List.ext_getElem?
  intro i
  by_cases r:i<t
  ·obtain⟨b,u,v⟩:=Lib.mapM_at f i i (by simp[r])
   obtain⟨s,base,rfl,-⟩:=DataW.trod_string he v;have y:c[i]?=jb (.string s):=by
    have:=jH (·[0]?) base
    simpa [qx,List.getElem?_drop]using this
   have d:(xs.map (·.1))[i]?=jb (DataW.lit (.string s.data.toList):jM H):=by simp[u]
   rw[g]at d;simp only[jU,qP,DataW.lit.injEq,Lit.string.injEq]at d;obtain⟨K,B,C⟩:=d;rw[y,jU,B,C];simp
  rw[qQ Y,qQ (by simp;omega)]
 cases h
theorem Ku{P:ob}{W:jj}{a:String}{b:ji (ji UInt8)}{c:ji (String×jM Unit)}{g:jl}{t e:jB}{n:jl}
 (d:P.globalNamed a=jb g) (f:(P.globals[g]?).map (·.type)=jb t) (i:P.underlying t=jb (.array n e)) (he:P.underlying e=jb .string) (j:P.cellsOf e=1) (k:P.cellsOf t=n)
 (h:laidMet P ((a,uW b)::c) W):W.var? P a=jb (b.map λz=>Value.string ⟨z.toArray⟩).toArray:=by
 obtain⟨s,⟨g',u,v,fuel,p,q,l,m,o,r,_,_⟩,_⟩:=h;obtain rfl:=pz.inj (d.symm.trans l);obtain rfl:=pz.inj (f.symm.trans m);rw[o,<-Pd i he j k r]
def sW:ji (String×jM Unit):=[("chartroom/digest.start",Rows.laid_chartroom_digest_start),("chartroom/digest.numbers",Rows.laid_chartroom_digest_numbers),("bytes.ErrTooLarge",Rows.laid_bytes_ErrTooLarge),("chartroom/cipher.constants",Rows.laid_chartroom_cipher_constants),("chartroom/schedule.labels",Rows.laid_chartroom_schedule_labels)]
theorem LN(h:laidMetH jp sW w):lx w/\iE w:=by
 have i:(Rows.laid_chartroom_digest_start:jM Unit)=Lib.tabData .u32 (fG.map λx=>(x.toNat:je)):=by kernel_rfl
 have j:(Rows.laid_chartroom_digest_numbers:jM Unit)=Lib.tabData .u32 (l9.map λx=>(x.toNat:je)):=by kernel_rfl
 have k:(Rows.laid_chartroom_cipher_constants:jM Unit)=Lib.tabData .u32 [0x61707865,0x3320646e,0x79622d32,0x6b206574]:=by kernel_rfl
 have l:(Rows.laid_chartroom_schedule_labels:jM Unit)=uW [[105,110,105,116],[99,111,109,109,105,116],[99,104,105,108,100]]:=by kernel_rfl
 unfold sW at h;rw[MakeChecks.laidMetH_plain _ _ _ af,i,j,k,l]at h;have e:=h.tail;have f:=e.tail.tail;have m:=f.tail;have a:=Lib.tabIs_of_head (g:=5) af af underlying346 qJ af af e;have b:=Lib.tabIs_of_head (g:=1) af af underlying312 qJ af af h;have c:=Lib.tabIs_of_head (g:=7) af af underlying364 qJ af af f;have d:=Ku (g:=0) af af underlying294 underlying9 af af m;exact⟨⟨a,b,c⟩,⟨a,b⟩,d⟩
theorem door_met(os:Os)(args:jv jd):laidMetH jp sW ((World.doorLaid jp 3000 os).forCall (λ_ _=>0) ⟨#[],args,[]⟩).memory:=
 laidMetH_of_parts3 (fuel:=8) (laidMet_of_run' 8 af af) af af
section
open Go.RowKit Go.ChangeShapes Go.WideShapes Go.Deep
theorem Lj(a:laidMetH jp sW w):gJ w:=by
 obtain⟨t,s⟩:=LN a;exact⟨t,s⟩
end
section
open Go.RowKit Go.ChangeShapes Go.WideShapes Go.Deep
theorem Q6{enc:jB×jd->H}{d:jM H}{p:ji qd}(h:DataW.Trod enc jp w 0 (λ_=>jh) jh 25 e d p)(j:qu jp w .any x 25 e):
 ∃(fol:je) (fid:LBy),e=.agg (c8 fol fid).toArray/\fid.length=32:=by
 obtain⟨k,rfl,z⟩:=okWide_struct qI j;obtain⟨cl⟩:=k;obtain⟨fuel,b⟩:=h;have l:(ms ⟨cl⟩).cells.toList=cl:=N;rw[l]at b;obtain⟨xs,n,-,-,q,r,c⟩:=DataW.trod_struct qI b;have B:cl.length=33:=q.trans af;have s:jp.cellsOf 3=1:=by kernel_rfl
 have v:jp.cellsOf 23=32:=by kernel_rfl
 match xs,r with
 |[y0,y1],_=>
  have f:=c 0 _ N;have g:=c 1 _ N;simp only[List.getElem_toArray,List.getElem_cons_zero,List.getElem_cons_succ,s,v]at f g;obtain⟨t,u,-,w0⟩:=DataW.trod_int underlying3 f;obtain⟨W,base,y⟩:=zy underlying23 v g;refine⟨t,W,?_,y⟩;have a:=kY (cl:=cl) (o:=0) (n:=1) (m:=1) N;have i:=kY (cl:=cl) (o:=1) (n:=32) (m:=33) N;rw[u,List.drop_zero]at a;have bz:cl.drop 33=[]:=List.drop_eq_nil_of_le Y;rw[base,bz,qf]at i;rw[i]at a;rw[a];rfl
structure It where
 f:je
 id:LBy
 dev:je
 ctr:je
 kd:je
 sz:je
 a:je
 b:je
 pad:LBy
 r:je
 s:je
def It.cells(x:It)(body:jd):ji jd:=[.int .i64 x.f]++(x.id.map v8++([.int .i64 x.dev]++([.int .i64 x.ctr]++([.int .i64 x.kd]++([.int .i64 x.sz]++(([.int .i64 x.a]++([.int .i64 x.b]++x.pad.map v8))++([body]++[.int .i64 x.r,.int .i64 x.s])))))))
structure ItG(a:jv jd)(c:LBy)(d e:je):Prop where
 sz:a.size=74
 one:a.all (·.oneCell')=jh
 id:∀t b,(c.map v8)[t]?=jb b->a[1+t]?=jb b
 dev:a[33]?=jb (.int .i64 d)
 ctr:a[34]?=jb (.int .i64 e)
theorem KL{enc:jB×jd->H}{v:jd}{d:jM H}{p:ji qd}(h:DataW.Trod enc jp w 0 (λ_=>jh) jh 26 v d p)(b:qu jp w .any x 26 v):
 ∃a:ji CP,cA w v a/\a.length<=jP/\∀p∈a,uN p.1:=by
 obtain⟨c,e,f,rfl⟩:=okWide_slice qH b;obtain⟨fuel,g⟩:=h;exact N2 (v:=.slice c e f) qH (by simpa [mz]using g)
theorem rX{l:ji Cmt}{c:aM}(h:c∈dA fol fid l):∃g,fO g l c:=by
 rw[pQ]at h
 cases hf:eS fol fid l with
 |none=>rw[hf]at h;cases h
 |some a=>
  rw[hf]at h;obtain⟨k,b⟩:=List.mem_iff_getElem?.1 h;exact⟨_,(GT a (aI fol) (tw hf).1 k c b).1⟩
theorem fO.small(h:fO f a i):i.leads.mem.length<=512/\i.leads.tree.length<=1023:=by
 rw[h.leads];exact lU (gY (nS h))
theorem OS(fol:je)(fid:LBy)(l:ji Cmt):(dA fol fid l).length<=l.length+1:=ze l _ _
end
theorem QC(l:ji Cmt)(P:ji jl)(i:jl):eM l (P++[i])=eM l P++(aH (aQ l i)).map v8:=by
 unfold eM;rw[qA];simp
theorem NY(f:ji CP)(v m:jd)(P:ji jl)(w:jj)(a:cA w v f)(h:∀p∈f,cZ (aR p.1))(r:bH w)(E:aG (·<w.heap.size) w m 1 P.length (fx P))(j:∀i∈P,i<f.length)(hn:P.length<=1000)(hl:f.length<=1000):
 jr jp 7 #[v,m] w λe w'=>∃x,e=jt (jw #[x,.bool jh])/\aG (λb=>w.heap.size<=b/\b<w'.heap.size) w' x 32 P.length (eM (f.map (·.1)) P)/\jo w w w':=by
 have y:=O a;have HE:=O h;have HT:=O r;have R:=O j;obtain⟨-,pu,cu,rfl,aa,-,k⟩:=E;have S:=O k;obtain⟨p1,k1,rfl⟩:=a.form;obtain⟨n,c⟩:=J P.length;have U:=O c;obtain⟨z,d⟩:=J f.length;have ad:=O d;rw[<-c]at hn aa S⊢;rw[<-d]at hl y R⊢;obtain⟨l,g⟩:=J (f.map (·.1));have au:=O g;rw[<-g];clear a h r j k c d g
 go_enter func7,ntmps7
 go_wp2_with fail
 go_loopw [4,5,6,7] (λ_ _ d i wr=>∃(k:jl) (q:Option Addr) (c:jl),i=jf jg k/\k<=n/\d=jk q k c/\jc (wr.ownsRow w RD.e 32 (jk q k c) k (eM l (P.take k)))/\jc (jo w w wr)) (λ_ _ _ i _=>n-(jG i).toNat)
 case atStart=>exact⟨0,jm,0,N,jX _,N,O (qn _ _ _ _),O (jI _ _)⟩
 obtain⟨k,q,c,rfl,hk,rfl,s,a⟩:=hrel
 by_cases ax:k<n
 case neg=>
  have hd:=az ((k:je)<(n:je));have UL:=az (k<n);obtain rfl:k=n:=Y
  go_wp2_with fail
  go_ret2;refine⟨_,N,?_,a⟩;have h:=aG.of_own (D:=λb=>w.heap.size<=b/\b<wr.heap.size) s (λg t=>s.lt g t);rw[qj (by rw[<-U];exact jA _)]at h;exact h
 have hd:=aw ((k:je)<(n:je));have UL:=aw (k<n);obtain⟨i,F,V⟩:=dN (l:=P) (j:=k) (by rw[<-U];exact ax);obtain⟨gu,ou,rfl,ay,W⟩:=S Y;have ci:wr.cell? ⟨gu,ou+k,jm⟩=jb (jf jg (i:jl)):=aD (W k _ (by unfold fx;rw[jU,F];rfl)) a;have a1:=R i (jR F);have a4:decide (((i:jl):je)<0)=js:=decide_eq_false Y;have a5:=az ((z:je)<=(i:je));have Vj:=az (z<=i);have a6:=aw ((i:je)<(z:je));have ba:=aw (i<z);obtain⟨⟨b,h⟩,B⟩:∃p,f[i]?=jb p:=⟨_,p6 (by rw[<-ad];exact a1)⟩;have a2:=y.below a;have H:=jR B;have K:=O (y.all _ H);have a3:=O (HE _ H);have Z7:jc (aQ l i=b):=O (by unfold aQ;rw[au];simp[List.getD,B]);obtain⟨g,o,bb,M,t,-,-,X⟩:=y.elem B;injection M with M d e3
 subst M;subst e3;clear d;have Vb:jc (wr.rangeAt g (o+i*73) (aE b h)):=O λj m hj=>aD (X j m hj) a
 have Vq:jc ((aE b h).length=VC.n):=O (dl b h K.plen K.clen);obtain⟨C,Q⟩:=J ((aE b h).toArray);have VV:=O Q;obtain⟨d,r⟩:=J (((aH b).map v8).toArray);have u:=ta b h wr (K.below a) a3 (HT.below a);rw[<-r,<-Q]at u;replace u:=O u;have WH:jc (d.size=32):=O (by rw[r,jD,jy,dQ]);have Vu:jc (∀m∈d.toList,m.oneCell'=jh):=O (λm E=>jS.1 (show d.all (·.oneCell')=jh by rw[r];exact eU _) m (ak E));have YK:jc (eM l (P.take (k+1))=eM l (P.take k)++d.toList):=O (by rw[V,QC,Z7,r]);clear W Q r H B a2 X t F V ay
 go_upto_region 7 with fail
 go_wp2_with (first|(refine VC.load aj N N (aE b h) Vq Vb ?_;rw[<-VV];refine G ?_))
 refine u.mono ?_;rintro e x1 ⟨rfl,r⟩;have F:=bj s r;replace a:=ah a r;clear r u s ci Vb;have H:jc (k<=1000000/\w.heap.size<=x1.heap.size+1):=O ⟨by omega,by have:=a.size;omega⟩
 go_upto_region 4 with(first|(refine qc N λ_ r=>RD.wp_build (.tmp 36) N (ja d) N WH (r _ _ ?_);clear r;refine G ?_)|
  (refine qc N λ_ r=>RD.wp_append (.tmp 28) (.tmp 37) N w.heap.size (jk q k c) k (eM l (P.take k)) N (cL F (ao x1 (jn d RD.e))) x1.heap.size d N (jF _ _) WH Vu H.1 (by rw[o8];exact H.2) ?_;intro v' V B t Q;obtain⟨W,X,rfl⟩:=cK B;refine r _ _ ?_;clear r;refine G ?_;have s:=O B;have u:=O t;clear B t Q))
 have UA:jc (jo w w V):=O (by
  have r:=a.trans ((ao x1 (jn d RD.e)).mono a.size);exact⟨u.os.trans r.os,u.tape.trans r.tape,u.output.trans r.output,jE r.size u.size,λB Q=>(u.block B (ju Q r.size) λe=>by have:=(F.lt B e.symm).1;omega).trans (r.block B Q)⟩)
 rw[<-YK]at s
 go_wp2_with fail
 exact⟨⟨k+1,W,X,by go_num,by omega,rfl,s,UA⟩,by simp only[jG];omega⟩
theorem ItG.set{f:jv jd}{c:LBy}{g j m:je}(h:ItG f c g j)(k:c.length=32):ItG (f.setIfInBounds 34 (jf jg m)) c g m:=by
 have l:=h.sz;refine⟨by rw[Array.size_setIfInBounds];exact l,?_,λt d b=>?_,?_,?_⟩
 ·rw[jS]
  intro d b;obtain⟨i,a⟩:=Array.mem_iff_getElem?.1 b
  by_cases e:i=34
  ·subst e
   rw[qS Y]at a;injection a with a
   rw[<-a];rfl
  rw[qG (Ne.symm e)]at a;exact jS.1 h.one d (Array.mem_of_getElem? a)
 ·have a:t<32:=by have:=(jL.1 b).1;rwa [jy,k]at this
  rw[qG Y];exact h.id t d b
 ·rw[qG Y];exact h.dev
 rw[qS Y]
theorem Mk(h:fO f a i){c:jl}{d:LBy}(l:i.ix=c)(b:i.id=d):aH (aQ a c)=d:=by
 subst l b;rw[<-h.com];exact h.id.symm
theorem Su(h:j.map CK.cand=dA d b a):eM a (j.map λk=>k.ix)=j.flatMap λk=>k.id.map v8:=by
 unfold eM;rw[List.flatMap_map];have l:∀k∈j,aH (aQ a k.ix)=k.id:=λk l=>by
  obtain⟨g,fid⟩:=rX (c:=k.cand) (by rw[<-h];exact qv l);exact Mk fid N N
 clear h
 induction j with
 |nil=>rw[qe,qe]
 |cons k j fid=>
  rw[j8,j8,l k (List.mem_cons_self ..),fid λx fol=>l x (List.mem_cons_of_mem _ fol)]
theorem FH(h:(dA d b a)[x]?=jb i):
 fO (dP (aI d) (dA d b a) x) a i/\(0<x->dH (dP (aI d) (dA d b a) x) a=jb i)/\(x=0->i.id=b):=by
 have e:=pQ d b a
 cases hf:eS d b a with
 |none=>rw[e,hf]at h;simp at h
 |some fid=>
  rw[hf]at e;dsimp only at e;rw[e]at h⊢;have l:=GT fid (aI d) (tw hf).1 x i h;refine⟨l.1,l.2,λfol=>?_⟩;subst fol;rw[nG]at h;simp at h;rw[<-h];exact(tw hf).2.1
theorem Kl{l:ji Cmt}(h:dA fol fid l≠[]):dH (dP (aI fol) (dA fol fid l) (dA fol fid l).length) l=jm:=by
 have e:=pQ fol fid l
 cases hf:eS fol fid l with
 |none=>rw[hf]at e;exact jq e h
 |some a=>
  rw[hf]at e;dsimp only at e;rw[e];exact Mg a (aI fol)
theorem PC(h:(dA d b a)[x]?=jb i)(fol:0<x):0<(dP (aI d) (dA d b a) x).epoch:=by
 obtain⟨j,rfl⟩:∃j,x=j+1:=⟨x-1,by omega⟩;have e:=(jL.1 h).1;have fid:=p6 (show j<(dA d b a).length by omega);have l:=(FH fid).1;rw[uA _ _ _ _ fid,l.leads,ig,(nS l).ep];have:=(nS l).val.ep;omega
theorem JI(g:Grp)(vm vt:jd)(c:Cmt)(q:CQ)(w:jj)(h:bL w g vm vt)(d:aW (·<w.heap.size) w c q)(f:cZ (aR c))(i:bH w)(a:cN g c=0):
 jr jp 9 #[ja (aB g vm vt).toArray,ja (aE c q).toArray] w λe w'=>∃m t,e=jt (jw #[ja (aB (aC g c) m t).toArray,jf jg 0])/\dz (λb=>w.heap.size<=b/\b<w'.heap.size) w' (aC g c) m t/\jo w w w':=by
 have o:=lU (fQ.1 a).val;refine(yS g vm vt c q w h d f i Y Y).mono ?_;rintro e w' ⟨b,-,j⟩;obtain⟨m,t,rfl,k,l,n⟩:=b a;exact⟨m,t,N,dz.of k l n,j⟩
theorem rW{o:jd}(h:bL w f e o):((aB f e o).toArray).size=VG.n/\((aB f e o).toArray).all (·.oneCell')=jh:=
 ⟨by rw[jD];exact eH h.llen,by rw[jS];exact λa b=>mc h a (ak b)⟩
theorem LO{D:jl->Prop}{c:Cmt}{q:CQ}(h:aW D w c q):((aE c q).toArray).size=VC.n/\((aE c q).toArray).all (·.oneCell')=jh:=
 ⟨by rw[jD];exact dl _ _ h.plen h.clen,by rw[jS];exact λa b=>mC h a (ak b)⟩
theorem Fx{o:jd}{u:jd}(b:(f.last.map v8)[x]?=jb u):(aB f e o)[2+x]?=jb u:=by
 have c:=(jL.1 b).1;unfold aB;show(_ ::_ ::(f.last.map v8++_))[2+x]?=_;rw[show 2+x=x+1+1 by omega,qD,qD,j9 c];exact b
theorem K9(fol:je)(fid:LBy)(c:fid.length=32)(u:ji CP)(vl:jd)(w:jj)(b:cA w vl u)(h:u.length<=jP)(o:∀p∈u,uN p.1)(i:gJ w):
 jr jp 3 #[ja (c8 fol fid).toArray,vl] w λe w'=>e=jt (.bool jh)/\jo w w w':=by
 obtain⟨p1,k1,rfl⟩:=b.form;obtain⟨U,g⟩:=J u.length;rw[<-g]at b⊢;obtain⟨E,a⟩:=J ((c8 fol fid).toArray);have ZH:jc (E.size=VF.n):=O (by rw[a,jD];unfold c8;rw[qC,jy,c];rfl);have bO:jc (E[0]?=jb (jf jg fol)):=O (by rw[a];rfl);have ZY:jc (∀j v,(fid.map v8)[j]?=jb v->E[1+j]?=jb v):=O (λj v R=>by rw[a,jV,Nat.add_comm];exact R);have bu:=O a;rw[<-a];have Yv:=O (And.intro g (And.intro h c));have bp:=O o;obtain⟨x1,M,B,k,m,d⟩:=dh w E VF.t;have F:jc (SSt w [(M,E,VF.t)] [] [] x1):=O ⟨λe he=>by
  simp only[jT,nn,or_false]at he;subst he;exact m,λp hp=>(by cases hp),λp hp=>(by cases hp),i.below d,d⟩
 have S:=O (b.below d);have HX:=O B;have n:=O k;clear a o B k m d b i c h g
 go_enter func3,ntmps3
 go_upto_region 1 with fail
 rw[show w.alloc (jn E 25)=x1 from HX.symm];rw[<-n];clear HX n
 go_wp2_with fail
 refine(JW x1 F.tab).mono ?_;rintro e x2 ⟨rfl,d⟩;replace F:=O (F.below d);replace S:=O (S.below d);clear d
 go_upto_region 3 with fail
 have a3:jc (∀W,cA W (jk p1 U k1) u->jr jp 5 #[jk p1 U k1] W λe w'=>(∃y,e=jt (.bool y)/\(y=jh->u.length<=7/\∀p∈u,tl p.1))/\jo W W w'):=O (λW h=>Ru u _ W h (λp hp=>⟨(bp p hp).nbox,(bp p hp).nwel⟩) Yv.2.1)
 go_wp2_with fail
 refine(a3 x2 S).mono ?_;rintro e x3 ⟨⟨y1,rfl,a⟩,d⟩;replace F:=O (F.below d);replace S:=O (S.below d);clear d a3
 rcases y1 with _|_
 ·clear a
  go_wp2_with fail
  go_ret;exact⟨N,F.bel⟩
 have a3:=O (a N);clear a;have bb:jc (∀p∈u,cZ (aR p.1)):=O (λp hp=>(OD (a3.2 p hp) (bp p hp).ints (S.all p hp).plen (S.all p hp).clen).encOk);have ax:jc (u.length<=1000/\∀p∈u,p.1.chg.length<=1000000):=O ⟨by have:=a3.1;omega,λp hp=>jE (a3.2 p hp).nchg L⟩
 go_upto_region 5 with fail
 have i:jc (∀W,cA W (jk p1 U k1) u->bH W->jr jp 6 #[ja E,jk p1 U k1] W λe w'=>∃(u1 u2:jd) (Ks:ji CK),e=jt (jw #[u1,u2])/\Ks.map CK.cand=dA fol fid (u.map (·.1))/\aG (λb=>W.heap.size<=b/\b<w'.heap.size) w' u1 1 Ks.length (Ks.map λk=>jz .i64 k.ix)/\
  aG (λb=>W.heap.size<=b/\b<w'.heap.size) w' u2 36 Ks.length (Ks.flatMap λk=>aB k.g k.vm k.vt)/\(∀k∈Ks,KD (λb=>b<w'.heap.size) u w' k)/\jo W W w'):=O (λW h ht=>by
   rw[bu];exact yH u _ fol fid Yv.2.2 W h bb ht ax.1 ax.2)
 go_wp2_with (first|(refine VF.loadA aj N N E ZH (F.blk (M,E,VF.t) ar) (G ?_)))
 refine(i x3 S F.tab.s.dig).mono ?_;rintro e x5 ⟨u1,u2,Ks,rfl,h1,h2,h3,h4,d⟩;replace F:=O (F.below d);replace S:=O (S.below d);obtain⟨n,g⟩:=J Ks.length;have ce:n<=8:=by
  have a:=jH jY h1;have b:=OS fol fid (u.map (·.1));have c:=a3.1;rw[jy]at a b;omega
 obtain⟨pa,ka,rfl⟩:=h2.form;obtain⟨pg,kg,rfl⟩:=h3.form;have h2:aG (·<x5.heap.size) x5 (jk pa Ks.length ka) 1 (Ks.map λk=>k.ix).length (fx (Ks.map λk=>k.ix)):=by
  unfold fx;rw[qa,jy];exact h2.mono λb q=>q.2
 rw[<-g]at h2 h3⊢;have HN:=O g;have Ze:=O h1;have Vl:=O h2;have YF:jc (aG (·<x5.heap.size) x5 (jk pg n kg) 36 n (Ks.flatMap λk=>aB k.g k.vm k.vt)):=O (h3.mono λb q=>q.2);have aa:jc (∀k∈Ks,u[k.ix]?=jb k.p/\bL x5 k.g k.vm k.vt):=O λk Q=>⟨(h4 k Q).at_,(h4 k Q).grp.grp⟩
 clear d i h1 h2 h3 h4 g
 go_upto_region 6 with fail
 have r:jc (∀W,cA W (jk p1 U k1) u->bH W->aG (·<W.heap.size) W (jk pa n ka) 1 (Ks.map λk=>k.ix).length (fx (Ks.map λk=>k.ix))->jr jp 7 #[jk p1 U k1,jk pa n ka] W λe w'=>∃x,e=jt (jw #[x,.bool jh])/\aG (λb=>W.heap.size<=b/\b<w'.heap.size) w' x 32 n (Ks.flatMap λk=>k.id.map v8)/\jo W W w'):=O (λW h ht hu=>by
  have m:(Ks.map λk=>k.ix).length=n:=by rw[jy];exact HN.symm
  refine(NY u _ _ (Ks.map λk=>k.ix) W h bb ht hu (λi s=>?_) (by rw[m];omega) ax.1).mono ?_
  ·obtain⟨k,Q,rfl⟩:=List.mem_map.1 s
   obtain⟨g,z⟩:=rX (c:=k.cand) (by rw[<-Ze];exact qv Q);have:=z.lt
   rwa [jy]at this
  rintro e w' ⟨x,e1,e2,e3⟩;rw[m,Su Ze]at e2;exact⟨x,e1,e2,e3⟩)
 go_wp2_with fail
 refine(r x5 S F.tab.s.dig Vl).mono ?_;rintro e V ⟨u3,rfl,m,d⟩;replace F:=O (F.below d);replace S:=O (S.below d);obtain⟨pd,kd,rfl⟩:=m.form;have bv:jc (aG (·<V.heap.size) V (jk pd n kd) 32 n (Ks.flatMap λk=>k.id.map v8)):=O (m.mono λb q=>q.2);replace YF:=O ((YF.keep λk Q=>d.block k Q).mono λk (Q:k<x5.heap.size)=>ju Q d.size);replace Vl:=O ((Vl.keep λk Q=>d.block k Q).mono λk (Q:k<x5.heap.size)=>ju Q d.size);replace aa:jc (∀k∈Ks,u[k.ix]?=jb k.p/\bL V k.g k.vm k.vt):=O λk Q=>⟨(aa k Q).1,(aa k Q).2.below d⟩
 clear d r m
 go_upto_region 9 with fail
 by_cases m:n=0
 ·have t1:decide ((n:je)=0)=jh:=by simp[m]
  have t2:((n:je)==0)=jh:=by simp[m]
  have t3:decide (n=0)=jh:=by simp[m]
  clear m
  go_wp2_with fail
  go_ret;exact⟨N,F.bel⟩
 have t1:decide ((n:je)=0)=js:=by simp[m]
 have t2:((n:je)==0)=js:=by simp[m]
 have t3:decide (n=0)=js:=by simp[m]
 have bw:=O m;clear m
 go_upto_region 11 with fail
 clear t1 t2 t3;obtain⟨G0,m⟩:=J ((aB (aI fol) vN vN).toArray);have bA:=O m;have r:=rW (Bv V fol);rw[<-m]at r;have s:=O r;have t:=ai (F.blk (M,E,VF.t) ar) bO;clear m r
 go_upto_region 12 with(first|(refine ei (v:=ja G0) aj (by rw[bA];exact El N N _) ?_;refine G ?_)|(refine VG.made N N (G ?_))|(refine VG.first N N N G0 N s.1 s.2 (G ?_)))
 clear t;obtain⟨x7,GB,B,q,bT,d⟩:=dh V G0 VG.t;rw[<-B,<-q];have Wi:jc (V.heap.size<=GB):=O (qo q.symm);have Zh:=O d;obtain⟨C,o⟩:=J (dA fol fid (u.map (·.1)));rw[<-o]at Ze;have VV:=O o;clear B q d o s
 go_wp2_with fail
 go_loopw [10] (λm wr=>∃(k:jl) (vm vt:jd) (H:jv jd),m=jf jg k/\k<=n/\jc (wr.heap[GB]?=jb (jn H VG.t (0,0)))/\jc (H=(aB (dP (aI fol) C k) vm vt).toArray)/\jc (dz (λb=>b≠GB/\b<wr.heap.size) wr (dP (aI fol) C k) vm vt)/\jc (jo V V wr)) (λi _=>n-(jG i).toNat)
 case atStart=>exact⟨0,vN,vN,G0,N,jX _,bT,O (by rw[bA];unfold dP;rfl),O (by
  have e:dP (aI fol) C 0=aI fol:=by cases C<;>rfl
  rw[e];exact⟨Bv _ fol,λp k c e h0 a i=>(by injection e with e;subst e;cases i),λp k c e h0 a i=>(by injection e with e;subst e;cases i)⟩),Zh⟩
 obtain⟨k,vm,vt,H,rfl,Q,r,ad,x,i⟩:=hrel
 by_cases b0:k<n
 ·have hd:=aw ((k:je)<(n:je))
  have UL:=aw (k<n);obtain⟨y,m,Vd⟩:=dN (l:=Ks) (j:=k) (by rw[<-HN];exact b0);have D:=jR m;have P:C[k]?=jb y.cand:=by rw[<-Ze,jU,m];rfl
  have t:=FH (by rw[<-VV];exact P);rw[<-VV]at t;have WK:jc (0<k->0<(dP (aI fol) C k).epoch):=O λh=>by
   have:=PC (by rw[<-VV];exact P) h
   rwa [<-VV]at this
  have a4:=uA (aI fol) C k y.cand P;obtain⟨GK,bd⟩:=J (dP (aI fol) C k);rw[<-bd]at t ad x WK;have bB:=O t;have bh:jc (dP (aI fol) C (k+1)=y.g):=O a4;have YC:jc (cN GK y.p.1=0):=O t.1.next;have ay:jc (y.g=aC GK y.p.1):=O t.1.leads;have b1:y.ix<U:=by
   have h:=t.1.lt;rw[jy,<-Yv.1]at h;exact h
  have bC:jc (y.id=aH y.p.1):=O t.1.id;have a1:=O (lU (fQ.1 YC).val);have s:=O (F.below i);have UN:=O (S.below i);obtain⟨-,pq,kq,bi,-,-,bk⟩:=(Vl.keep λb q=>i.block b q:aG _ wr _ _ _ _);obtain⟨ga,oa,bl,-,bm⟩:=bk (by rw[jy,<-HN];omega);obtain rfl:pa=jb ⟨ga,oa,jm⟩:=by injection bi with e;rw[e,bl]
  have ca:wr.cell? ⟨ga,oa+k,jm⟩=jb (jf jg (y.ix:jl)):=bm k _ (by unfold fx;rw[qa,jU,m];rfl);obtain⟨gl,ol,cf,b2,-,-,-,Wp⟩:=UN.elem (aa y D).1;injection b2 with e1 e2 e3
  subst e1;subst e3;have bc:=O (UN.all y.p (jR (aa y D).1));have b3:=O (bb y.p (jR (aa y D).1));have cg:=O ((aa y D).2.below i);have b4:jc (u[y.ix]?=jb y.p):=O (aa y D).1;have b5:jc (y∈Ks):=O D;obtain⟨g,o,c',hq,-,-,-,a5⟩:=aG.rowM (bv.keep λb q=>i.block b q:aG _ wr _ _ _ _) HN (f:=λk:CK=>k.id.map v8) (λc z=>by
   rw[jy];obtain⟨g',Wb⟩:=rX (c:=c.cand) (by rw[<-VV,<-Ze];exact qv z);exact(jH jY Wb.id).trans (dQ _)) m
  injection hq with e4 e5 e6
  subst e4;subst e6;obtain⟨g2,o2,ci,b6,-,-,-,a6⟩:=aG.rowM (YF.keep λb q=>i.block b q:aG _ wr _ _ _ _) HN (f:=λk:CK=>aB k.g k.vm k.vt) (λc z=>eH (aa c z).2.llen) m;injection b6 with e7 e8 e9
  subst e7;subst e9;obtain⟨ix,X⟩:=J y.ix;rw[<-X]at ca b1 Wp;have hd2:=aw ((ix:je)<(U:je));have Zv:=O Wp;have cj:=O a5;have ck:=O a6;have b7:=O X;have bI:jc (∀W,jo V V W->W.rangeAt g2 (o2+k*36) (aB y.g y.vm y.vt)):=O (λW h=>by
   obtain⟨g',o',c3,au,-,-,-,a2⟩:=aG.rowM (YF.keep λb q=>h.block b q:aG _ W _ _ _ _) HN (f:=λk:CK=>aB k.g k.vm k.vt) (λc z=>eH (aa c z).2.llen) m;injection au with a q2 q3
   injection a with a
   injection a with a K
   rw[a,K];exact a2)
  have bn:jc (∀W,jo V V W->W.rangeAt g (o+k*32) (y.id.map v8)):=O (λW h=>by
   obtain⟨g',o',c3,au,-,-,-,a2⟩:=aG.rowM (bv.keep λb q=>h.block b q:aG _ W _ _ _ _) HN (f:=λk:CK=>k.id.map v8) (λc z=>by
    rw[jy];obtain⟨g',Wb⟩:=rX (c:=c.cand) (by rw[<-VV,<-Ze];exact qv z);exact(jH jY Wb.id).trans (dQ _)) m
   injection au with a q2 q3
   injection a with a
   injection a with a K
   rw[a,K];exact a2)
  have bK:jc (∀W,jo V V W->W.cell? ⟨ga,oa+k,jm⟩=jb (jf jg (ix:jl))):=O (λW h=>by
   obtain⟨-,pq,kq,bi,-,-,bk⟩:=(Vl.keep λb q=>h.block b q:aG _ W _ _ _ _);obtain⟨g3,o3,bl,-,bm⟩:=bk (by rw[jy,<-HN];omega);injection bi with a
   rw[bl]at a;injection a with a
   injection a with a K
   rw[a,K,X];exact bm k _ (by unfold fx;rw[qa,jU,m];rfl))
  have Z2:jc ((aC GK y.p.1).mem.length<=1000000/\(aC GK y.p.1).tree.length<=1000000):=O (by
   have h:=lU (gY (fQ.1 YC));exact⟨jE h.1 L,jE h.2 L⟩)
  have VO:=O ca;obtain⟨CA,a⟩:=J ((aE y.p.1 y.p.2).toArray);have K:=LO bc;rw[<-a]at K;have Wc:=O K;have bo:=O a;have Vq:jc ((aE y.p.1 y.p.2).length=VC.n):=O (dl _ _ bc.plen bc.clen);clear m Vd D P t a4 bd bk bm bi bl e2 e5 e8 Wp a5 a6 X K a
  go_upto_region 16 with(first|(refine VC.load aj N N (aE y.p.1 y.p.2) Vq Zv ?_;rw[<-bo];refine G ?_)|(refine VC.made N N (G ?_))|(refine VC.first N N N CA N Wc.1 Wc.2 (G ?_)))
  clear ca;obtain⟨y1,CB,B,q,D,d⟩:=dh wr CA VC.t;rw[<-B,<-q];replace i:=ah i d;replace r:=ae r d;replace x:=O ((x.keep λb q=>d.block b q.2).mono λb q=>And.intro q.1 (ju q.2 d.size));replace s:=O (s.below d);replace UN:=O (UN.below d);clear B q d;have Z8:=rW x.grp;rw[<-ad]at Z8;have WT:=O Z8;clear Z8;have bf:jc (∀W,cA W (jk (jb ⟨gl,ol,jm⟩) U k1) u->bL W GK vm vt->bH W->jr jp 8 #[ja H,jk (jb ⟨gl,ol,jm⟩) U k1] W λe w'=>∃(wi:je) (wb:Bool),e=jt (jw #[jf jg wi,.bool wb])/\(0<k->wi=ix/\wb=jh)/\jo W W w'):=O (λW h hg ht=>by
   rw[ad];refine(AQ u _ GK vm vt W h hg bb ht ax.1 (jE a1.1 L) (jE a1.2 L) ax.2).mono ?_;rintro e w' ⟨rfl,h2⟩;refine⟨_,_,N,λh0=>?_,h2⟩;rw[bB.2.1 h0,b7];exact⟨N,N⟩)
  go_wp2_with (first|(refine VG.loadA aj N N H WT.1 r (G ?_)))
  refine(bf y1 UN x.grp s.tab.s.dig).mono ?_;rintro e y2 ⟨wi,wb,rfl,a,d⟩;have b8:=O a;replace i:=ah i d;replace r:=ae r d;replace x:=O ((x.keep λb q=>d.block b q.2).mono λb q=>And.intro q.1 (ju q.2 d.size));replace s:=O (s.below d);replace UN:=O (UN.below d);replace D:=ae D d;clear d a bf
  go_upto_region 17 with fail
  obtain⟨NG,a⟩:=J (aC GK y.p.1);rw[<-a]at ay Z2;have X:jc (∀W,bL W GK vm vt->aW (·<W.heap.size) W y.p.1 y.p.2->bH W->jr jp 9 #[ja H,ja CA] W λe w'=>∃m t,e=jt (jw #[ja (aB NG m t).toArray,jf jg 0])/\dz (λb=>W.heap.size<=b/\b<w'.heap.size) w' NG m t/\jo W W w'):=O (λW hg z ht=>by
   rw[ad,bo,a];exact JI GK vm vt y.p.1 y.p.2 W hg z b3 ht YC)
  have b9:=O a;clear a
  go_wp2_with (first|(refine VG.loadA aj N N H WT.1 r (G ?_))|(refine VC.loadA aj N N CA Wc.1 D (G ?_)))
  refine(X y2 x.grp (UN.all y.p (jR b4)) s.tab.s.dig).mono ?_;rintro e y3 ⟨m,t,rfl,a4,d⟩;obtain⟨K,a5⟩:=J ((aB NG m t).toArray);have a6:=rW a4.grp;rw[<-a5]at a6⊢;have YN:=O a6;have Zn:=O a5;have P:jc (dz (λb=>b≠GB/\b<y3.heap.size) y3 NG m t):=O (a4.mono λb q=>⟨λe=>by
   have h1:=(jN.1 r).1
   omega,q.2⟩)
  replace i:=ah i d;replace r:=ae r d;replace x:=O ((x.keep λb q=>d.block b q.2).mono λb q=>And.intro q.1 (ju q.2 d.size));replace s:=O (s.below d);replace D:=ae D d;clear d a4 a5 a6 X
  go_upto_region 18 with(first|(refine VG.made N N (G ?_))|(refine VG.first N N N K N YN.1 YN.2 (G ?_)))
  obtain⟨y4,XB,B,q,X,d⟩:=dh y3 K VG.t;rw[<-B,<-q];replace i:=ah i d;replace r:=ae r d;replace x:=O ((x.keep λb q=>d.block b q.2).mono λb q=>And.intro q.1 (ju q.2 d.size));replace P:=O ((P.keep λb q=>d.block b q.2).mono λb q=>And.intro q.1 (ju q.2 d.size));replace s:=O (s.below d);replace D:=ae D d;clear B q d;have d:=bV y4;obtain⟨y5,B⟩:=J y4.drew;rw[<-B]at d;have HX:=O B;replace i:=ah i d;replace r:=ae r d;replace x:=O ((x.keep λb q=>d.block b q.2).mono λb q=>And.intro q.1 (ju q.2 d.size));replace P:=O ((P.keep λb q=>d.block b q.2).mono λb q=>And.intro q.1 (ju q.2 d.size));replace s:=O (s.below d);replace D:=ae D d;replace X:=ae X d;have bM:jc (bL y5 NG y.vm y.vt):=O (by rw[<-ay];exact(aa y b5).2.below i);have br:jc (y5.rangeAt g2 (o2+k*36) (aB y.g y.vm y.vt)):=O (bI y5 i);have bs:jc (y5.rangeAt g (o+k*32) (y.id.map v8)):=O (bn y5 i);have bg:jc (y5.heap[XB]?=jb (jn K VG.t (0,0))/\y5.rangeAt g2 (o2+k*36) (aB y.g y.vm y.vt)/\y5.heap[CB]?=jb (jn CA VC.t (0,0))/\y5.heap[GB]?=jb (jn H VG.t (0,0))/\y5.rangeAt g (o+k*32) (y.id.map v8)):=O ⟨X,br,D,r,bs⟩;have VM:jc (y.p.1.parent.length=32/\y.id.length=32/\y.p.1.parent=GK.last/\y.g.last=y.id):=O ⟨bc.plen,(jH jY bC).trans (dQ _),(fQ.1 YC).par,by rw[ay,b9,vV];exact bC.symm⟩;obtain⟨YA,bN⟩:=J ((aB y.g y.vm y.vt).toArray);obtain⟨PT,a2⟩:=J ((y.p.1.parent.map v8).toArray);obtain⟨IT,bq⟩:=J ((y.id.map v8).toArray);have WH:jc (YA=(aB y.g y.vm y.vt).toArray/\PT=(y.p.1.parent.map v8).toArray/\IT=(y.id.map v8).toArray):=O ⟨bN,a2,bq⟩;have ba:jc ((aB y.g y.vm y.vt).length=VG.n/\(y.p.1.parent.map v8).length=VD.n/\(y.id.map v8).length=VD.n):=O ⟨eH (by rw[ay];exact bM.llen),by rw[jy];exact VM.1,by rw[jy];exact VM.2.1⟩;have ca:jc (∀z,(Op.equalIn 10000 23 (ja PT) (ja PT)).run jp z=.ok jh z):=O (λz=>by rw[a2];exact Bd _ VM.1 z);have UV:jc (∀z,(Op.equalIn 10000 23 (ja IT) (ja IT)).run jp z=.ok jh z):=O (λz=>by rw[bq];exact Bd _ VM.2.1 z);have Yf:jc (∀a:jj,a.heap[CB]?=jb (jn CA VC.t (0,0))->a.rangeAt CB 2 (y.p.1.parent.map v8)):=O (λa h j au R=>ai h (by rw[bo,jV];exact G9 R));have cb:jc (∀a:jj,a.heap[GB]?=jb (jn H VG.t (0,0))->a.rangeAt GB 2 (y.p.1.parent.map v8)):=O (λa h j au R=>ai h (by rw[ad,jV];rw[VM.2.2.1]at R;exact Fx R));have cc:jc (∀a:jj,a.rangeAt g2 (o2+k*36) (aB y.g y.vm y.vt)->a.rangeAt g2 (o2+k*36+2) (y.id.map v8)):=O (λa h=>Jt h 2 λj R=>by
   obtain⟨au,hu⟩:∃au,(y.id.map v8)[j]?=jb au:=⟨_,p6 R⟩;rw[hu];exact Fx (by rw[VM.2.2.2];exact hu))
  clear B d bN a2 bq;refine j6 ?_;refine dj (λa=>a.heap[XB]?=jb (jn K VG.t (0,0))/\a.rangeAt g2 (o2+k*36) (aB y.g y.vm y.vt)/\a.heap[CB]?=jb (jn CA VC.t (0,0))/\a.heap[GB]?=jb (jn H VG.t (0,0))/\a.rangeAt g (o+k*32) (y.id.map v8)) (.t 0 (.t 1 (.t 2 (.t 3 (.t 4 (.t 5 (.t 6 (.t 7 (.o 8 (.t 9 (.t 10 (.t 11 (.t 12 (.t 13 (.t 14 (.t 15 (.t 16 (.t 17 (.t 18 (.t 19 (.t 20 (.t 21 (.t 22 (.t 23 (.t 24 (.t 25 (.t 26 (.t 27 (.t 28 (.t 29 .done)))))))))))))))))))))))))))))) af af af L (λ_ _ _ _ h=>h) (by rw[<-HX];exact bg) ?_;rw[<-HX];clear HX;iterate 3 refine aO ?_
  (refine aS (v:=ja K) N aj (λa z=>dc VG.hu VG.hd (by rw[YN.1];exact VG.hi) N N z.1) ?_;refine G ?_)
  iterate 3 refine aO ?_
  (refine aS (v:=ja YA) N aj (λa z=>by rw[WH.1];exact eF _ _ VG.t _ N _ _ N _ VG.d z.2.1 VG.hu VG.hd (by rw[ba.1];exact VG.hi)) ?_;refine G ?_)
  have a2:=O (AB NG m t y.vm y.vt y5 P.grp bM Z2.1 Z2.2);rw[<-Zn]at a2;have bN:jc (YA=(aB NG y.vm y.vt).toArray):=O (by rw[WH.1,ay]);rw[<-bN]at a2;refine aF N (λK' hK=>?_);go_simp;refine a2.mono ?_;rintro e y6 ⟨rfl,d⟩;replace i:=ah i d;replace r:=ae r d;replace x:=O ((x.keep λb q=>d.block b q.2).mono λb q=>And.intro q.1 (ju q.2 d.size));replace P:=O ((P.keep λb q=>d.block b q.2).mono λb q=>And.intro q.1 (ju q.2 d.size));replace s:=O (s.below d);replace D:=ae D d;replace X:=ae X d;refine hK _ _ ⟨X,bI y6 i,D,r,bn y6 i⟩ λ_=>?_
  clear hK d a2 br bs bg;refine G ?_;have br:=ca.out;have bq:=UV.out;iterate 4 refine aO ?_
  (refine aS (v:=ja PT) N aj (λa z=>by rw[WH.2.1];exact eF _ _ VD.t _ N _ _ N _ VD.d (Yf _ z.2.2.1) VD.hu VD.hd (by rw[ba.2.1];exact VD.hi)) ?_;refine G ?_)
  refine aO ?_
  (refine aS (v:=ja PT) N aj (λa z=>by rw[WH.2.1];exact eF _ _ VD.t _ N _ _ N _ VD.d (cb _ z.2.2.2.1) VD.hu VD.hd (by rw[ba.2.1];exact VD.hi)) ?_;refine G ?_)
  refine fk ?_;iterate 6 refine aO ?_
  (refine aS (v:=ja IT) N aj (λa z=>by rw[WH.2.2];exact eF _ _ VD.t _ N _ _ N _ VD.d (cc _ z.2.1) VD.hu VD.hd (by rw[ba.2.2];exact VD.hi)) ?_;refine G ?_)
  iterate 3 refine aO ?_
  (refine aS (v:=ja IT) N aj (λa z=>by rw[WH.2.2];exact eF _ _ VD.t _ N _ _ N _ VD.d z.2.2.2.2 VD.hu VD.hd (by rw[ba.2.2];exact VD.hi)) ?_;refine G ?_)
  refine fk ?_;refine aO ?_;clear br bq;refine nv ?_
  go_upto_region 20 with fail
  have d:=bV y6;obtain⟨y7,B⟩:=J y6.drew;rw[<-B]at d;have HX:=O B;replace i:=ah i d;replace r:=ae r d;replace x:=O ((x.keep λb q=>d.block b q.2).mono λb q=>And.intro q.1 (ju q.2 d.size));replace P:=O ((P.keep λb q=>d.block b q.2).mono λb q=>And.intro q.1 (ju q.2 d.size));replace s:=O (s.below d);replace D:=ae D d;replace X:=ae X d;have bg:jc (y7.rangeAt g (o+k*32) (y.id.map v8)/\y7.heap[M]?=jb (jn E VF.t (0,0))/\y7.cell? ⟨ga,oa+k,jm⟩=jb (jf jg (ix:jl))/\y7.heap[GB]?=jb (jn H VG.t (0,0))/\y7.heap[CB]?=jb (jn CA VC.t (0,0))):=O ⟨bn y7 i,s.blk (M,E,VF.t) ar,bK y7 i,r,D⟩;clear B d;refine j6 ?_;refine dj (λa=>a.rangeAt g (o+k*32) (y.id.map v8)/\a.heap[M]?=jb (jn E VF.t (0,0))/\a.cell? ⟨ga,oa+k,jm⟩=jb (jf jg (ix:jl))/\a.heap[GB]?=jb (jn H VG.t (0,0))/\a.heap[CB]?=jb (jn CA VC.t (0,0))) (.t 0 (.t 1 (.t 2 (.t 3 (.t 4 (.t 5 (.t 6 (.t 7 (.t 8 (.t 9 (.t 10 (.t 11 (.t 12 (.t 13 (.t 14 (.t 15 (.t 16 (.t 17 (.t 18 (.t 19 (.t 20 (.t 21 (.t 22 (.t 23 (.t 24 (.t 25 (.t 26 (.t 27 (.o 28 (.t 29 (.t 30 (.t 31 (.t 32 .done))))))))))))))))))))))))))))))))) af af af L (λ_ _ _ _ h=>h) (by rw[<-HX];exact bg) ?_;rw[<-HX];clear HX
  by_cases WU:k=0
  ·have z1:decide ((k:je)=0)=jh:=by simp[WU]
   have z2:((k:je)==0)=jh:=by simp[WU]
   have z3:decide ((k:je)>0)=js:=by simp[WU]
   have z4:decide (0<(k:je))=js:=by simp[WU]
   have z5:decide (k=0)=jh:=by simp[WU]
   have z6:decide (0<k)=js:=by simp[WU]
   have z7:0<n:=Y;have z8:=aw (0<n);have br:y.id=fid:=bB.2.2 WU;have bs:jc (∀a:jj,a.heap[M]?=jb (jn E VF.t (0,0))->a.rangeAt M 1 (y.id.map v8)):=O (λa h j au R=>by rw[br]at R;exact ai h (ZY j au R));have U0:jc (∀a:jj,a.rangeAt g (o+k*32) (y.id.map v8)->a.rangeAt g o (y.id.map v8)):=O (λa h=>by rw[WU]at h;simpa using h);clear br WU;have bq:=UV.out;iterate 5 refine aO ?_
   (refine aS (v:=ja IT) N aj (λa z=>by rw[WH.2.2];exact eF _ _ VD.t _ N _ _ N _ VD.d (U0 _ z.1) VD.hu VD.hd (by rw[ba.2.2];exact VD.hi)) ?_;refine G ?_)
   refine aO ?_
   (refine aS (v:=ja IT) N aj (λa z=>by rw[WH.2.2];exact eF _ _ VD.t _ N _ _ N _ VD.d (bs _ z.2.1) VD.hu VD.hd (by rw[ba.2.2];exact VD.hi)) ?_;refine G ?_)
   refine fk ?_;clear bq
   repeat (first|refine io ?_|refine aO ?_|(refine LX N aj bg (G ?_)))
   refine nv ?_
   go_upto_region 22 with fail
   go_wp2_with (first|(refine VG.loadA aj N N K YN.1 X (G ?_))|(refine VG.store N N N K N YN.1 YN.2 r WT.1 (G ?_)))
   refine⟨⟨k+1,m,t,K,by go_num,by omega,O (jW _ _ _ _ _ _ r.out),O (by rw[bh,ay];exact Zn),O ?_,O (ow i Wi K)⟩,by simp only[jG];omega⟩;rw[bh,ay];exact(P.keep λb q=>jJ _ _ _ _ q.1).mono λb q=>⟨q.1,by rw[setRow_size];exact q.2⟩
  have z1:decide ((k:je)=0)=js:=by simp[WU]
  have z2:((k:je)==0)=js:=by simp[WU]
  have z3:=aw ((k:je)>0);have z4:=aw (0<(k:je));have z5:decide (k=0)=js:=by simp[WU]
  have z6:=aw (0<k);obtain⟨rfl,rfl⟩:=b8 Y;have br:jc (jr jp 11 #[ja H,jf jg y.p.1.author] y7 λe w'=>e=jt (.bool jh)/\jo y7 y7 w'):=O (by
   have h:=Lw GK vm vt y.p.1.author y7 x.grp (jE a1.1 L);rw[(fQ.1 YC).poss.own,n0 (WK Y),<-ad]at h;exact h)
  obtain⟨au,bs⟩:=J y.p.1.author;rw[<-bs]at br;have cd:jc (CA[34]?=jb (jf jg au)):=O (by rw[bo,bs,jV];exact(iO _ _ bc.plen bc.clen).2.2.1);clear bs WU;iterate 3 refine aO ?_
  iterate 6 refine io ?_
  iterate 12 refine aO ?_
  (refine aS (v:=?_) N aj (λa z=>?_) ?_;rotate_left;(have kk:=z.2.2.1;clear z;go_simp;with_reducible rfl);refine G ?_)
  iterate 3 refine aO ?_
  (refine aS (v:=ja H) N aj (λa z=>dc VG.hu VG.hd (by rw[WT.1];exact VG.hi) N N z.2.2.2.1) ?_;refine G ?_)
  refine aO ?_
  (refine aS (v:=?_) N aj (λa z=>?_) ?_;rotate_left;(have kk:=ai z.2.2.2.2 cd;clear z;go_simp;with_reducible rfl);refine G ?_)
  refine aF N (λK' hK=>?_);go_simp;refine br.mono ?_;rintro e a ⟨rfl,d⟩;replace i:=ah i d;replace r:=ae r d;replace x:=O ((x.keep λb q=>d.block b q.2).mono λb q=>And.intro q.1 (ju q.2 d.size));replace P:=O ((P.keep λb q=>d.block b q.2).mono λb q=>And.intro q.1 (ju q.2 d.size));replace s:=O (s.below d);replace D:=ae D d;replace X:=ae X d;refine hK _ _ ⟨bn a i,s.blk (M,E,VF.t) ar,bK a i,r,D⟩ λ_=>?_
  clear hK d br;refine G ?_;iterate 4 refine aO ?_
  refine nv ?_
  go_upto_region 22 with fail
  go_wp2_with (first|(refine VG.loadA aj N N K YN.1 X (G ?_))|(refine VG.store N N N K N YN.1 YN.2 r WT.1 (G ?_)))
  refine⟨⟨k+1,m,t,K,by go_num,by omega,O (jW _ _ _ _ _ _ r.out),O (by rw[bh,ay];exact Zn),O ?_,O (ow i Wi K)⟩,by simp only[jG];omega⟩;rw[bh,ay];exact(P.keep λb q=>jJ _ _ _ _ q.1).mono λb q=>⟨q.1,by rw[setRow_size];exact q.2⟩
 have hd:=az ((k:je)<(n:je));have UL:=az (k<n);obtain rfl:k=n:=Y;have ba:C≠[]:=λe=>bw (by have h:=jH jY Ze;rw[jy,e]at h;rw[HN];exact h)
 have au:C.length=k:=by rw[<-Ze,jy];exact HN.symm
 have ay:dH (dP (aI fol) C k) (u.map (·.1))=jm:=by
  have h:=Kl (fol:=fol) (fid:=fid) (l:=u.map (·.1)) (by rw[<-VV];exact ba)
  rwa [<-VV,au]at h
 obtain⟨j,R⟩:∃j,k=j+1:=⟨k-1,by have:=bw.out;omega⟩;obtain⟨o,y⟩:∃c,C[j]?=jb c:=⟨_,p6 Y⟩;have bc:C.getLast?=jb o:=by rw[List.getLast?_eq_getElem?,au,R,Nat.add_sub_cancel];exact y
 have z:dP (aI fol) C k=o.leads:=by rw[R];exact uA _ _ _ _ y
 obtain⟨gx,Wb⟩:∃g,fO g (u.map (·.1)) o:=rX (by rw[<-VV];exact jR y);have D:=Wb.small;rw[<-z]at D;obtain⟨GK,bd⟩:=J (dP (aI fol) C k);rw[<-bd]at ay z D ad x;have a1:=O D;have s:=O (F.below i);have UN:=O (S.below i);have Z8:=rW x.grp;rw[<-ad]at Z8;have WT:=O Z8;have bf:jc (∀W,cA W (jk p1 U k1) u->bL W GK vm vt->bH W->jr jp 8 #[ja H,jk p1 U k1] W λe w'=>e=jt (jw #[jf jg 0,.bool js])/\jo W W w'):=O (λW h hg ht=>by
  rw[ad];have h2:=AQ u _ GK vm vt W h hg bb ht ax.1 (jE a1.1 L) (jE a1.2 L) ax.2;rw[ay]at h2;exact h2)
 have bg:jc (∀W,cA W (jk p1 U k1) u->bH W->jr jp 12 #[ja E,jk p1 U k1] W λe w'=>∃m t,e=jt (jw #[ja (aB GK m t).toArray,.bool jh])/\bL w' GK m t/\jo W W w'):=O (λW h ht=>by
  rw[bu];refine(ya u _ fol fid Yv.2.2 W h bb ht ax.1 ax.2).mono ?_;rintro e w' ⟨a,rfl,h1,h2,h3⟩;rw[<-VV,bc]at h1
  rcases a with _|a
  ·cases h1
  have e1:a.cand=o:=pz.inj h1;have e2:a.g=GK:=by rw[z,<-e1];rfl
  have h4:=(h2 a N).grp.grp;rw[e2]at h4;refine⟨a.vm,a.vt,?_,h4,h3⟩;rw[<-e2];rfl)
 clear ba au ay R y bc z Wb D bd Z8
 go_upto_region 23 with fail
 go_wp2_with (first|(refine VG.loadA aj N N H WT.1 r (G ?_)))
 refine(bf wr UN x.grp s.tab.s.dig).mono ?_;rintro e y1 ⟨rfl,d⟩;replace i:=ah i d;replace r:=ae r d;replace x:=O ((x.keep λb q=>d.block b q.2).mono λb q=>And.intro q.1 (ju q.2 d.size));replace s:=O (s.below d);replace UN:=O (UN.below d);clear d bf
 go_upto_region 24 with fail
 go_wp2_with (first|(refine VF.loadA aj N N E ZH (s.blk (M,E,VF.t) ar) (G ?_)))
 refine(bg y1 UN s.tab.s.dig).mono ?_;rintro e y2 ⟨m,t,rfl,a4,d⟩;obtain⟨K,a5⟩:=J ((aB GK m t).toArray);have a6:=rW a4;rw[<-a5]at a6⊢;have YN:=O a6;have Zn:=O a5;replace i:=ah i d;replace r:=ae r d;replace x:=O ((x.keep λb q=>d.block b q.2).mono λb q=>And.intro q.1 (ju q.2 d.size));replace s:=O (s.below d);have P:=O a4;clear d a4 a5 a6 bg
 go_upto_region 25 with(first|(refine VG.made N N (G ?_))|(refine VG.first N N N K N YN.1 YN.2 (G ?_)))
 obtain⟨y3,XB,B,q,X,d⟩:=dh y2 K VG.t;rw[<-B,<-q];replace i:=ah i d;replace r:=ae r d;replace x:=O ((x.keep λb q=>d.block b q.2).mono λb q=>And.intro q.1 (ju q.2 d.size));replace P:=O (P.below d);replace s:=O (s.below d);clear B q d;have a2:=O (AB GK m t vm vt y3 P x.grp (jE a1.1 L) (jE a1.2 L));rw[<-Zn,<-ad]at a2
 go_wp2_with (first|(refine VG.loadA aj N N K YN.1 X (G ?_))|(refine VG.loadA aj N N H WT.1 r (G ?_)))
 refine a2.mono ?_;rintro e y4 ⟨rfl,d⟩;replace s:=O (s.below d);clear d a2
 go_wp2_with fail
 go_ret;exact⟨N,s.bel⟩
section
open Go.RowKit Go.ChangeShapes Go.WideShapes Go.Deep
theorem links_w{enc:jB×jd->H}(b:jd)(c:jM H)(d:ji qd)(f:DataW.Trod enc jp w 0 (λ_=>jh) jh 25 b c d)(g:qu jp w .any x 25 b)
 (a:jd) (h:jM H) (i:ji qd) (j:DataW.Trod enc jp w 0 (λ_=>jh) jh 26 a h i) (k:qu jp w .any x 26 a) (l:laidMetH jp sW w):
 jr jp 3 #[b,a] w λe m=>e=.returned (.bool jh)/\jo w w m:=by
 obtain⟨fol,fid,rfl,n⟩:=Q6 f g;obtain⟨o,p,q,r⟩:=KL j k;exact K9 fol fid n o a w p q r (Lj l)
end

end Go.Proofs.YtngkfaggaccpoaaGreatDoor
