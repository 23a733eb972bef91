/- Contracts of functions that the law reaches, part 10 of 10; no condition. -/
import Derived.Test.YtpmlopbaafjefaaGreatDoorZJ9
namespace Go.Proofs.YtpmlopbaafjefaaGreatDoor
set_option maxHeartbeats 64000000
set_option maxRecDepth 100000
set_option linter.unusedVariables false
set_option linter.unusedSimpArgs false
set_option linter.unusedSectionVars false
open Go.RowKit
open Go.Proofs.Tryz
open Go renaming undef->I,Value->jd,World->ji,Calls->jr,maxLen->jB,TypeId->jC,wpOp_step->jJ,Oper->jL,setRow_other->jM,wp_store_row->jW,setRow_heap->jZ,execOp->j6,Operand->j7,wp_region_noPanic->j8,Ending->j9,wpList_plain->oj,below_setRow->qc
open _root_ renaming rfl->N,Int->jg,List->jn,Nat->jp,absurd->js,Array->ju,if_pos->jA,congrArg->jV,decide_eq_true->ob
open Go.Value renaming agg->ja,slice->jl,tuple->jv
open Go.RowKit renaming Hid->jb,Below->jm
open _root_.Option renaming some->jc,none->jj
open Go.Value renaming int->je
open Go.IntKind renaming i64->jf
open _root_.Bool renaming true->jh,false->jq
open Go.Obj renaming cells->jk
open Go.Proofs.Tryz renaming prog->jo
open Go.Ending renaming returned->jt
open _root_.Nat renaming lt_of_lt_of_le->jw,le_refl->jz,le_trans->jK,zero_le->jT,zero_add->ow,lt_irrefl->o1,add_mul->pz,le_of_eq->ql
open Go.Value renaming int->jy,agg->j4,cells->ms,ownBlock->qk,tuple->qo,okWide->qt,oneCell'->qB
open _root_.List renaming size_toArray->jD,mem_cons->jF,map_nil->jH,length_map->jO,mem_nil_iff->jP,map_cons->jR,getElem?_eq_some_iff->jS,length_append->jU,getElem?_append_right->jX,getElem?_toArray->jY,mem_append->j1,take_length->mb,flatMap_cons->mz,mem_singleton->nn,mem_of_getElem?->nv,getElem?_append_left->n0,getElem?_map->o8,length_take->p6,toList_toArray->qa,length_singleton->qb,flatMap_nil->qd,append_nil->qe,find?_append->qf,take_of_length_le->qg,append_assoc->qh,map_toArray->qi,length->qn,mem_toArray->qs,any_eq_true->qu,getElem?_take->qv,map_append->qx,flatMap_append->qy,take_append_of_le_length->qz,length_cons->qA,set_append_right->qC,length_nil->qD
open Go.Proofs renaming intOf->jE
open Go.World renaming alloc_heap_new->jG,size_alloc->j3,ownsRow_nil->qj
open Go.RowKit.Below renaming refl->jI
open _root_.Array renaming getElem?_eq_some_iff->jN,length_toList->j0,all_eq_true_iff_forall_mem->j5,getElem?_toList->qw
open Go.NoPanic renaming normal->jQ
variable{b:LBy}{a:jg}{w:ji}{m:jn CK}{e:jn ar}{x:jp}
section
set_option maxRecDepth 1000000
theorem wT{f:Grp}{x:jp}{h seed:LBy}{d:jn Bx}{c:jn Wl}(g:(eo (aX f.tree e) a).map (eE f a e b seed)=d)(init:(du a e).map (fz f a e b h seed)=c):
 mkC f a x e b h seed=mkF f a x e b h d c:=by
 rw[<-Nu];unfold mkC mk2 mk1 mkX pJ vB;rw[g,init]
theorem Lm:aY 4 3=64:=by rw[ng];decide+kernel
theorem I5:aY 4 2=16:=by rw[ng];decide+kernel
theorem TC:cR 1=⟨1,1,64,64,0⟩:=by
 have h:((aY 4 (1+2):jp):jg)=64:=by rw[show 1+2=3 from N,Lm];rfl
 unfold cR;rw[h];rfl
theorem Bv:cR 0=⟨1,0,16,16,0⟩:=by
 have h:((aY 4 (0+2):jp):jg)=16:=by rw[show 0+2=2 from N,I5];rfl
 unfold cR;rw[h];rfl
theorem Pi{f g':Grp}{h:LBy}{p:jg×jg}(d:f.folder=g'.folder)(g:f.epoch=g'.epoch)(seed:f.last=g'.last):pk f a e b h p x=pk g' a e b h p x:=by
 have c:kh f a e b=kh g' a e b:=by unfold kh;rw[d,g,seed]
 unfold pk;rw[c]
theorem Jp{f g':Grp}{h seed:LBy}{y:ar}(g:f.folder=g'.folder)(d:f.epoch=g'.epoch)(init:f.last=g'.last):oV f a e b h seed y=oV g' a e b h seed y:=by
 have c:kh f a e b=kh g' a e b:=by unfold kh;rw[g,d,init]
 have i:dL f b h=dL g' b h:=by unfold dL;rw[d]
 unfold oV;rw[c,i]
theorem Hh(g:Grp)(c:Cmt):(aB g c).folder=g.folder:=by unfold aB;dsimp only
theorem tz:bF=cq1:=by
 have h:bF=mkF (aM 3) 1 3 [cR 1] (kz 1) (kz 1) [] []:=wT (by rw[wS.1];rfl) (by rw[wI.1];rfl);rw[h,uJ (g:=aM 3) (g':=gq1) N N N,TC,cm1]
theorem lF:gS1.folder=gq2.folder/\gS1.epoch=gq2.epoch/\gS1.last=gq2.last:=by
 have a:gS1.last=aG bF:=AK _ _;refine⟨Hh _ _,lZ.2.2,?_⟩;rw[a,tz,id1];rfl
theorem tm:bU=cq2:=by
 obtain⟨e,a⟩:=Bh;have b:tG (aX gS1.tree [cR 0]) (512:jg)=16:=by
  rw[a,I5];rfl
 have c:(eo (aX gS1.tree [cR 0]) 1).map (eE gS1 1 [cR 0] (kz 2) (kz 2))=bx2:=by
  rw[wS.2.1,jR,jH,Mm (x:=(1,512)) b,KJ,Pi lF.1 lF.2.1 lF.2.2,Bv,NM];rfl
 have d:(du 1 [cR 0]).map (fz gS1 1 [cR 0] (kz 2) (kz 1) (kz 2))=wl2:=by
  rw[wI.2.1,jR,jH,Tx,Jp lF.1 lF.2.1 lF.2.2,Bv,JG];rfl
 have h:bU=mkF gS1 1 3 [cR 0] (kz 2) (kz 1) bx2 wl2:=wT c d;rw[h,uJ lF.1 lF.2.1 lF.2.2,Bv,cm2]
theorem pQ:cW.folder=gq3.folder/\cW.epoch=gq3.epoch/\cW.last=gq3.last:=by
 have a:cW.last=aG bU:=AK _ _;refine⟨(Hh _ _).trans lF.1,fu.2.2,?_⟩;rw[a,tm,id2];rfl
theorem ug:cS3=cq3:=by
 have h:cS3=mkF cW 0 2 [dJ 1 5] (kz 3) (kz 1) [] []:=wT (by rw[wS.2.2.1];rfl) (by rw[wI.2.2.1];rfl);rw[h,uJ pQ.1 pQ.2.1 pQ.2.2,show dJ 1 5=⟨2,1,0,0,5⟩from N,cm3]
theorem uh:cN=cq4:=by
 have h:cN=mkF cW 1 3 [dJ 0 5] (kz 4) (kz 1) [] []:=wT (by rw[wS.2.2.2];rfl) (by rw[wI.2.2.2];rfl);rw[h,uJ (g':=gq4) pQ.1 pQ.2.1 pQ.2.2,show dJ 0 5=⟨2,0,0,0,5⟩from N,cm4]
theorem oN:dU 3 cS3 bU cN bF:=
 Jq (by rw[ug,tm,id3,id2];decide+kernel) (by rw[ug,uh,id3,id4];decide+kernel) (by rw[ug,tz,id3,id1];decide+kernel)
  (by rw[tm,uh,id2,id4];decide+kernel) (by rw[tm,tz,id2,id1];decide+kernel) (by rw[uh,tz,id4,id1];decide+kernel)
end
section
set_option maxRecDepth 1000000
instance(x:jg):Decidable (IR x):=by unfold IR;infer_instance
theorem KW:fI cq1:=by refine⟨?_,?_,?_,?_,?_,?_,?_⟩<;>decide+kernel
theorem Ru:fI cq2:=by refine⟨?_,?_,?_,?_,?_,?_,?_⟩<;>decide+kernel
theorem Kd:fI cq3:=by refine⟨?_,?_,?_,?_,?_,?_,?_⟩<;>decide+kernel
theorem Mr:fI cq4:=by refine⟨?_,?_,?_,?_,?_,?_,?_⟩<;>decide+kernel
theorem lD:cT (aP bF)/\cT (aP bU)/\cT (aP cS3)/\cT (aP cN):=
 ⟨by rw[tz];exact KW.encOk,by rw[tm];exact Ru.encOk,by rw[ug];exact Kd.encOk,by rw[uh];exact Mr.encOk⟩
theorem O7{g:Grp}{vm vt:jd}{d:jp}(j:d<512)(b:BitVec 8){a:jd}{x:ar}{W:ji}(l:bH W g vm vt)(n:aH (·<W.heap.size) W a 5 1 x.cells)(o:gJ W)(p:ie g (d:jg) ((d+2:jp):jg) [x]=0)
 (c:Cmt) (r:c=mkC g (d:jg) (d+2) [x] (kz b) (kz 1) (kz b)) (f:gz g c) (s:cT (aP c)):
 jr jo 13 #[ja (aD g vm vt).toArray,je jf (d:jg),v8 b,a] W λe w'=>∃q h i,e=jt (jv #[ja (aF c q).toArray,ja (aD (aB g c) h i).toArray,.bool jh])/\
  aT (λk=>W.heap.size<=k/\k<w'.heap.size) w' c q/\dN (λk=>W.heap.size<=k/\k<w'.heap.size) w' (aB g c) h i/\jm W W w':=by
 have B:=nN f.val;refine(RE g vm vt d j b a [x] W l (by rw[mz,qd,qe];exact n) o p c r (fW.2 f) s Y Y ao).mono ?_;rintro e w' ⟨q,m,t,k,u,v,w,y,z⟩;exact⟨q,m,t,k,u,dN.of v w y,z⟩
structure SSt(w:ji)(BL:jn (jp×ju jd×jC))(CL:jn CP)(GL:jn (Grp×jd×jd))(x:ji):Prop where
 blk:∀e∈BL,x.heap[e.1]?=jc (jk e.2.1 e.2.2 (0,0))
 com:∀p∈CL,aT (·<x.heap.size) x p.1 p.2
 grp:∀p∈GL,bH x p.1 p.2.1 p.2.2
 tab:gJ x
 bel:jm w w x
section
variable {w x x':ji} {BL:jn (jp×ju jd×jC)} {CL:jn CP} {GL:jn (Grp×jd×jd)}
theorem SSt.below(h:SSt w BL CL GL x)(a:jm x x x'):SSt w BL CL GL x':=
 ⟨λe he=>av (h.blk e he) a,λp b=>(h.com p b).below a,λp b=>(h.grp p b).below a,h.tab.below a,h.bel.trans (a.mono h.bel.size)⟩
theorem SSt.block(h:SSt w BL CL GL x){b:jp}{a:ju jd}{t:jC}(c:x.heap[b]?=jc (jk a t (0,0))):SSt w ((b,a,t)::BL) CL GL x:=
 ⟨λe he=>(jF.1 he).elim (λd=>d▸c) (h.blk e),h.com,h.grp,h.tab,h.bel⟩
theorem SSt.made(h:SSt w BL CL GL x){c:Cmt}{q:CQ}{g:Grp}{vm vt:jd}{D:jp->Prop}(d:aT D x c q)(e:∀k,D k->k<x.heap.size)(f:bH x g vm vt):SSt w BL ((c,q)::CL) ((g,vm,vt)::GL) x:=
 ⟨h.blk,λp a=>(jF.1 a).elim (λb=>b▸d.mono e) (h.com p),λp a=>(jF.1 a).elim (λb=>b▸f) (h.grp p),h.tab,h.bel⟩
theorem SSt.start(a:gJ w):SSt w [] [] [] w:=⟨λe h=>(by cases h),λe h=>(by cases h),λe h=>(by cases h),a,jI _ _⟩
end
theorem uR{W:ji}{g k:jp}{a:ju jd}{e:jC}(h:W.heap[g]?=jc (jk a e (0,0)))(b:a.size=k):aH (·<W.heap.size) W (jl (jc ⟨g,0,jj⟩) 1 1) k 1 a.toList:=by
 refine⟨by rw[j0,b,Nat.one_mul],_,1,N,jz _,(λe=>by cases e),λ_=>⟨g,0,N,(jN.1 h).1,λj d c=>?_⟩⟩;rw[ow];exact ah h (ak c)
noncomputable def RCg:eC jo:=.of 30 55 5 40 (ja #[je jf 0,je jf 0,je jf 0,je jf 0,je jf 0]) underlying30 af N L L L
def vN:jd:=jl jj 0 0
def AG3:ju jd:=(aD (aM 3) vN vN).toArray
theorem Ji{a:Act}{o:jL}(b:o.op=.build 29 #[(0,.const (je jf 3))])(W:ji):
 (j6 a.eval o).run jo W=.ok (.value (ja AG3)) W:=by
 simp only[j6,b]
 kernel_rfl
theorem SU(w:ji)(f:jg):bH w (aM f) vN vN:=
 ⟨⟨rfl,jj,0,rfl,jz _,λ_=>rfl,λh=>js h (o1 _)⟩,nJ w,rfl⟩
end
theorem sT(p:Option Addr)(n c:jp)(w:ji):jr jo 59 #[jl p n c] w λe w'=>e=jt (.bool (decide (n<=10)))/\jm w w w':=by
 by_cases h:n<=10
 ·have b:=az ((n:jg)<=10)
  have a:=O (ob h)
  go_enter func59,ntmps59
  go_wp2_with fail
  go_ret;exact⟨by rw[a];rfl,jI _ _⟩
 have b:=aw ((n:jg)<=10);have a:=O (decide_eq_false h)
 go_enter func59,ntmps59
 go_wp2_with fail
 go_ret;exact⟨by rw[a];rfl,jI _ _⟩
theorem Nj(c:Cmt)(q:CQ)(w:ji)(a:aT (·<w.heap.size) w c q)(X:c.box.length<=jB)(l4:c.wel.length<=jB):
 jr jo 23 #[ja (aF c q).toArray] w λe w'=>(∃b,e=jt (.bool b)/\(b=jh->rq c))/\jm w w w':=by
 have B:=dQ.new w (q:=q) a.plen a.clen;have g:=ap w (jk (aF c q).toArray 37);obtain⟨C,D,H⟩:=a.chg.form;obtain⟨pp,cp,K⟩:=a.path.form;obtain⟨pb,cb,i⟩:∃p E,q.vb=jl p c.box.length E:=by obtain⟨us,h,-⟩:=a.box;exact h.form
 obtain⟨pw,cw,k⟩:∃p E,q.vw=jl p c.wel.length E:=by obtain⟨us,h,-⟩:=a.wel;exact h.form
 obtain⟨-,-,-,F,d,f,n,-,-⟩:=B.at;rw[H]at F;rw[K]at d;rw[i]at f;rw[k]at n;have YM:=O a.box;have WY:=O a.wel;have a2:=O i;have a3:=O k;obtain⟨u,m⟩:=J c.chg.length;obtain⟨np,o⟩:=J c.path.length;obtain⟨r,v⟩:=J c.box.length;obtain⟨s,x⟩:=J c.wel.length;rw[<-m]at F;rw[<-o]at d;rw[<-v]at f X a2;rw[<-x]at n l4 a3;replace X:r<=9223372036854775807:=X;replace l4:s<=9223372036854775807:=l4;have a4:=O m;have a5:=O o;have ZX:=O v;have YA:=O x;obtain⟨b,y⟩:=J w.heap.size;obtain⟨a6,M⟩:=J ((aF c q).toArray);rw[<-M]at g F d f n⊢;rw[<-y]at F d f n;obtain⟨W,z⟩:=J (w.alloc (jk a6 37));rw[<-z]at g F d f n;have P:=O z;have Q:=O y;have t:=O g;clear B g a H K i k m o v x y M z
 go_enter func23,ntmps23
 go_upto_region 1 with fail
 rw[<-P,<-Q];clear P Q
 go_wp2_with fail
 go_loopw [3] (λi wr=>∃k:jp,i=je jf k/\k<=r/\jb (∀x∈c.box.take k,x.body.length<=200)/\wr=W) (λi _=>r-(jE i).toNat)
 case atStart=>exact⟨0,N,jT _,O ao,N⟩
 obtain⟨k,rfl,hk,a,H⟩:=hrel;rw[H];clear H
 by_cases aa:k<r
 case pos=>
  have ad:=az ((k:jg)<(r:jg));have au:=az (k<r);obtain⟨x,v,K⟩:=dK (l:=c.box) (j:=k) (by rw[<-ZX];exact aa);obtain⟨us,M,P⟩:=YM.out;obtain⟨ba,Q,R⟩:=P.at (i:=k) (b:=x.body) (by rw[o8,v];rfl);obtain⟨g,o,E,S,z⟩:=oJ M (λ_ _=>rfl) v Q;rw[a2]at S;injection S with e1 e2 e3
  subst e1;subst e3;obtain⟨px,cx,rfl⟩:=R.form;have YX:=O K;obtain⟨m,B⟩:=J x.body.length;rw[<-B]at z;have d3:W.cell? ⟨g,o+k*4+3,jj⟩=jc (jl px m cx):=aC (z 3 _ N) t;have HM:=O B;clear z M P Q R v K e2 B
  by_cases U:200<m
  case pos=>
   have ax:=az ((200:jg)<(m:jg));have ay:=az (200<m);clear U
   go_wp2_with fail
   go_ret;exact⟨⟨jq,N,λh=>by cases h⟩,t⟩
  have ax:=aw ((200:jg)<(m:jg));have ay:=aw (200<m);have a1:jb (∀y∈c.box.take (k+1),y.body.length<=200):=O (λy V=>by
   rw[YX]at V
   rcases j1.1 V with h|h
   ·exact a y h
   obtain rfl:=nn.1 h;have:=HM.out
   omega)
  clear U a
  go_wp2_with fail
  exact⟨⟨k+1,by go_num,by omega,a1,by trivial⟩,by simp only[jE];omega⟩
 have ad:=aw ((k:jg)<(r:jg));have au:=aw (k<r);obtain rfl:r=k:=Y;have Yu:jb (∀x∈c.box,x.body.length<=200):=O (by have h:=a.out;rwa [ZX,mb]at h);clear a
 go_wp2_with fail
 go_loopw [4] (λi wr=>∃k:jp,i=je jf k/\k<=s/\jb (∀x∈c.wel.take k,x.body.length<=200)/\wr=W) (λi _=>s-(jE i).toNat)
 case atStart=>exact⟨0,N,jT _,O ao,N⟩
 obtain⟨k,rfl,hk,a,H⟩:=hrel;rw[H];clear H
 by_cases aa:k<s
 case pos=>
  have ad:=az ((k:jg)<(s:jg));have au:=az (k<s);obtain⟨x,v,K⟩:=dK (l:=c.wel) (j:=k) (by rw[<-YA];exact aa);obtain⟨us,M,P⟩:=WY.out;obtain⟨ba,Q,R⟩:=P.at (i:=k) (b:=x.body) (by rw[o8,v];rfl);obtain⟨g,o,E,S,z⟩:=oJ M (λ_ _=>rfl) v Q;rw[a3]at S;injection S with e1 e2 e3
  subst e1;subst e3;obtain⟨px,cx,rfl⟩:=R.form;have YX:=O K;obtain⟨m,B⟩:=J x.body.length;rw[<-B]at z;have d3:W.cell? ⟨g,o+k*3+2,jj⟩=jc (jl px m cx):=aC (z 2 _ N) t;have HM:=O B;clear z M P Q R v K e2 B
  by_cases U:200<m
  case pos=>
   have ax:=az ((200:jg)<(m:jg));have ay:=az (200<m);clear U
   go_wp2_with fail
   go_ret;exact⟨⟨jq,N,λh=>by cases h⟩,t⟩
  have ax:=aw ((200:jg)<(m:jg));have ay:=aw (200<m);have a1:jb (∀y∈c.wel.take (k+1),y.body.length<=200):=O (λy V=>by
   rw[YX]at V
   rcases j1.1 V with h|h
   ·exact a y h
   obtain rfl:=nn.1 h;have:=HM.out
   omega)
  clear U a
  go_wp2_with fail
  exact⟨⟨k+1,by go_num,by omega,a1,by trivial⟩,by simp only[jE];omega⟩
 have ad:=aw ((k:jg)<(s:jg));have au:=aw (k<s);obtain rfl:s=k:=Y;have v:jb (∀x∈c.wel,x.body.length<=200):=O (by have h:=a.out;rwa [YA,mb]at h);clear a
 by_cases m:u<=10
 case neg=>
  have i:jb (decide (u<=10)=jq):=O (decide_eq_false m);clear m
  go_wp2_with fail
  refine(sT C u D _).mono ?_;rintro e o ⟨rfl,a⟩;have g:=aj t a;clear a;rw[i]
  go_wp2_with fail
  go_ret;exact⟨⟨jq,N,λh=>by cases h⟩,g⟩
 have i:jb (decide (u<=10)=jh):=O (ob m);have x:=O m;clear m
 by_cases m:np<=12
 case neg=>
  have y:=aw ((np:jg)<=12);clear m
  go_wp2_with fail
  refine(sT C u D _).mono ?_;rintro e o ⟨rfl,a⟩;have g:=aj t a;rw[i];replace d:=aC d a;replace f:=aC f a;replace n:=aC n a;clear a
  go_wp2_with fail
  go_ret;exact⟨⟨jq,N,λh=>by cases h⟩,g⟩
 have y:=az ((np:jg)<=12);have z:=O m;clear m
 by_cases m:r<=40
 case neg=>
  have B:=aw ((r:jg)<=40);clear m
  go_wp2_with fail
  refine(sT C u D _).mono ?_;rintro e o ⟨rfl,a⟩;have g:=aj t a;rw[i];replace d:=aC d a;replace f:=aC f a;replace n:=aC n a;clear a
  go_wp2_with fail
  go_ret;exact⟨⟨jq,N,λh=>by cases h⟩,g⟩
 have B:=az ((r:jg)<=40);have H:=O m;clear m
 by_cases m:s<=10
 case neg=>
  have K:=aw ((s:jg)<=10);clear m
  go_wp2_with fail
  refine(sT C u D _).mono ?_;rintro e o ⟨rfl,a⟩;have g:=aj t a;rw[i];replace d:=aC d a;replace f:=aC f a;replace n:=aC n a;clear a
  go_wp2_with fail
  go_ret;exact⟨⟨jq,N,λh=>by cases h⟩,g⟩
 have K:=az ((s:jg)<=10);have M:=O m;clear m
 go_wp2_with fail
 refine(sT C u D _).mono ?_;rintro e o ⟨rfl,a⟩;have g:=aj t a;rw[i];replace d:=aC d a;replace f:=aC f a;replace n:=aC n a;clear a
 go_wp2_with fail
 go_ret;exact⟨⟨jh,N,λ_=>⟨Yu,v,by rw[<-a4];exact x,by rw[<-a5];exact z,by rw[<-ZX];exact H,by rw[<-YA];exact M⟩⟩,g⟩
theorem JS(g:Grp)(vm vt:jd)(w:ji)(h:bH w g vm vt)(l:g.tree.length<=jB):
 jr jo 5 #[ja (aD g vm vt).toArray] w λe w'=>(∃b,e=jt (.bool b)/\(b=jh->g.mem.length<=8/\g.tree.length<=80))/\jm w w w':=by
 have a:=dy.new w (vm:=vm) (vt:=vt) h.llen;have b:=ap w (jk (aD g vm vt).toArray 29);have d:=O (Qk g.tree vt _ (h.tree.below b) l);obtain⟨p,c,rfl,-,-⟩:=h.mem.form;obtain⟨m,o,q,rfl⟩:=gu h.tree;obtain⟨-,-,i,r⟩:=a.at;have f:=O b;obtain⟨v,j⟩:=J ((aD g (jl p g.mem.length c) (jl m o q)).toArray);rw[<-j]at i r d f⊢;obtain⟨n,k⟩:=J g.mem.length;rw[<-k]at i⊢;clear a b h j k
 by_cases b:n<=8
 case neg=>
  have j:=aw ((n:jg)<=8);clear b
  go_enter func5,ntmps5
  go_wp2_with fail
  go_ret;exact⟨⟨jq,N,λh=>by cases h⟩,f⟩
 have j:=az ((n:jg)<=8);have k:=O b;clear b;obtain⟨s,b⟩:=J (decide (g.tree.length<=80));rw[<-b]at d;have t:=O b;clear b
 go_enter func5,ntmps5
 go_wp2_with fail
 refine d.mono ?_;rintro e x ⟨rfl,b⟩;have u:=aj f b;clear b
 go_wp2_with fail
 go_ret;exact⟨⟨s,N,λa=>⟨k,of_decide_eq_true (by rw[<-t];exact a)⟩⟩,u⟩
theorem I9{l:jn aJ}{x:aJ}(h:cZ l a=jj)(d:(x.dev==a)=jq):cZ (l++[x]) a=jj:=by
 unfold cZ at*;rw[qf,h];simp[d]
theorem DN{l:jn aJ}{k:aJ}(h:cZ (l.take x) a=jj)(d:l.take (x+1)=l.take x++[k])(b:k.dev=a):cZ l a=jc k:=by
 have e:cZ (l.take (x+1)) a=jc k:=by unfold cZ at*;rw[d,qf,h];simp[b]
 unfold cZ at*;rw[<-List.take_append_drop (x+1) l,qf,e];rfl
theorem Dg(l:jn aJ)(d:jg):cD l d=(cZ l d).isSome:=by
 unfold cD cZ;rw[Bool.eq_iff_iff,List.find?_isSome,qu]
theorem Dw(a:Grp)(vm vt:jd)(d:jg)(w:ji)(h:bH w a vm vt)(q:a.mem.length<=jB):
 jr jo 12 #[ja (aD a vm vt).toArray,je jf d] w λe w'=>e=jt (.bool (cD a.mem d))/\jm w w w':=by
 have i:=dy.new w (vm:=vm) (vt:=vt) h.llen;have b:=ap w (jk (aD a vm vt).toArray 29);have k:=h.mem;obtain⟨p,c,rfl,-,-⟩:=h.mem.form;obtain⟨-,-,m,-⟩:=i.at;have v:=O (k.cells);obtain⟨E,o⟩:=J ((aD a (jl p a.mem.length c) vt).toArray);rw[<-o]at m b⊢;obtain⟨n,f⟩:=J a.mem.length;rw[<-f]at m q v;replace q:n<=9223372036854775807:=q;have x:=O f;obtain⟨r,g⟩:=J (w.alloc (jk E 29));rw[<-g]at m b;have t:=O g;have s:=O b;clear i b h o f k g
 go_enter func12,ntmps12
 go_upto_region 1 with fail
 rw[<-t];obtain⟨b,f⟩:=J w.heap.size;rw[<-f]at m⊢;clear t f
 go_wp2_with fail
 go_loopw [5] (λi wr=>∃k:jp,i=je jf k/\k<=n/\jb (cZ (a.mem.take k) d=jj)/\wr=r) (λi _=>n-(jE i).toNat)
 case atStart=>exact⟨0,N,jT _,O N,N⟩
 obtain⟨k,rfl,V,t,f⟩:=hrel;rw[f];clear f
 by_cases F:k<n
 ·have H:=az ((k:jg)<(n:jg))
  have K:=az (k<n);obtain⟨-,-,u⟩:=v.out;obtain⟨g,o,rfl,z⟩:=u Y;obtain⟨y,B,C⟩:=dK (l:=a.mem) (j:=k) (by rw[<-x];exact F);have f:=λi M P=>aC (z k y B i M P) s
  have Q:r.cell? ⟨g,o+k*3,jj⟩=jc (je jf y.dev):=f 0 _ N;have R:r.cell? ⟨g,o+k*3+1,jj⟩=jc (je jf y.since):=f 1 _ N;obtain⟨md,S,U⟩:=y;dsimp only at Q R;have D:=O C;clear z C B u f
  by_cases f:md=d
  case neg=>
   have u:(md==d)=jq:=ak f;have z:jb (cZ (a.mem.take (k+1)) d=jj):=O (by rw[D];exact I9 t u);have B:decide (md=d)=jq:=ak f;clear f
   go_wp2_with fail
   exact⟨⟨k+1,by go_num,by omega,z,by trivial⟩,by simp only[jE];omega⟩
  have u:jb (cZ a.mem d=jc ⟨md,S,U⟩):=O (DN t D f);subst f
  go_wp2_with fail
  go_ret;exact⟨by rw[Dg,u];rfl,s⟩
 have H:=aw ((k:jg)<(n:jg));have K:=aw (k<n);obtain rfl:k=n:=Y;have u:jb (cZ a.mem d=jj):=O (by
  have h:=t.out
  rwa [x,mb]at h)
 go_wp2_with fail
 go_ret;exact⟨by rw[Dg,u];rfl,s⟩
theorem G9(a:Grp)(vm vt:jd)(d:jg)(w:ji)(h:bH w a vm vt)(q:a.mem.length<=jB):
 jr jo 10 #[ja (aD a vm vt).toArray,je jf d] w λe w'=>e=jt (je jf (dW a d))/\jm w w w':=by
 have i:=dy.new w (vm:=vm) (vt:=vt) h.llen;have b:=ap w (jk (aD a vm vt).toArray 29);have k:=h.mem;obtain⟨p,c,rfl,-,-⟩:=h.mem.form;obtain⟨-,-,m,-⟩:=i.at;have v:=O (k.cells);obtain⟨E,o⟩:=J ((aD a (jl p a.mem.length c) vt).toArray);rw[<-o]at m b⊢;obtain⟨n,f⟩:=J a.mem.length;rw[<-f]at m q v;replace q:n<=9223372036854775807:=q;have x:=O f;obtain⟨r,g⟩:=J (w.alloc (jk E 29));rw[<-g]at m b;have t:=O g;have s:=O b;clear i b h o f k g
 go_enter func10,ntmps10
 go_upto_region 1 with fail
 rw[<-t];obtain⟨b,f⟩:=J w.heap.size;rw[<-f]at m⊢;clear t f
 go_wp2_with fail
 go_loopw [5] (λi wr=>∃k:jp,i=je jf k/\k<=n/\jb (cZ (a.mem.take k) d=jj)/\wr=r) (λi _=>n-(jE i).toNat)
 case atStart=>exact⟨0,N,jT _,O N,N⟩
 obtain⟨k,rfl,V,t,f⟩:=hrel;rw[f];clear f
 by_cases F:k<n
 ·have H:=az ((k:jg)<(n:jg))
  have K:=az (k<n);obtain⟨-,-,u⟩:=v.out;obtain⟨g,o,rfl,z⟩:=u Y;obtain⟨y,B,C⟩:=dK (l:=a.mem) (j:=k) (by rw[<-x];exact F);have f:=λi M P=>aC (z k y B i M P) s
  have Q:r.cell? ⟨g,o+k*3,jj⟩=jc (je jf y.dev):=f 0 _ N;have R:r.cell? ⟨g,o+k*3+1,jj⟩=jc (je jf y.since):=f 1 _ N;obtain⟨md,S,U⟩:=y;dsimp only at Q R;have D:=O C;clear z C B u f
  by_cases f:md=d
  case neg=>
   have u:(md==d)=jq:=ak f;have z:jb (cZ (a.mem.take (k+1)) d=jj):=O (by rw[D];exact I9 t u);have B:decide (md=d)=jq:=ak f;clear f
   go_wp2_with fail
   exact⟨⟨k+1,by go_num,by omega,z,by trivial⟩,by simp only[jE];omega⟩
  have u:jb (cZ a.mem d=jc ⟨md,S,U⟩):=O (DN t D f);subst f
  go_wp2_with fail
  go_ret;exact⟨by unfold dW;rw[u];rfl,s⟩
 have H:=aw ((k:jg)<(n:jg));have K:=aw (k<n);obtain rfl:k=n:=Y;have u:jb (cZ a.mem d=jj):=O (by
  have h:=t.out
  rwa [x,mb]at h)
 go_wp2_with fail
 go_ret;exact⟨by unfold dW;rw[u];rfl,s⟩
theorem GJ{α:Type}{l:jn α}{p:α->Bool}{x:α}(h:l.any p=jq)(a:p x=jq):(l++[x]).any p=jq:=by
 rw[List.any_append,h];simp[a]
theorem DC(a:Cmt)(q:CQ)(d:jg)(w:ji)(b:aT (·<w.heap.size) w a q)(m:a.chg.length<=jB):
 jr jo 7 #[ja (aF a q).toArray,je jf d] w λe w'=>e=jt (.bool (gS a d))/\jm w w w':=by
 have o:=dQ.new w (q:=q) b.plen b.clen;have g:=ap w (jk (aF a q).toArray 37);have h:=EK.At.of_sl (E:=EC) b.chg;obtain⟨p,c,r⟩:=b.chg.form;obtain⟨-,-,-,f,-⟩:=o.at;rw[r]at f h;have u:=O (h.cells);have s:gS a d=a.chg.any λx=>x.k==2&&x.d==d:=N
 rw[s];obtain⟨l,t⟩:=J a.chg;obtain⟨M,y⟩:=J ((aF a q).toArray);rw[<-y]at f g⊢;rw[<-t]at f m u⊢;obtain⟨n,i⟩:=J l.length;rw[<-i]at f m u;replace m:n<=9223372036854775807:=m;have D:=O i;obtain⟨v,k⟩:=J (w.alloc (jk M 37));rw[<-k]at f g;have B:=O k;have z:=O g;clear o g b y i h k r s t
 go_enter func7,ntmps7
 go_upto_region 1 with fail
 rw[<-B];obtain⟨b,g⟩:=J w.heap.size;rw[<-g]at f⊢;clear B g
 go_wp2_with fail
 go_loopw [5] (λi wr=>∃k:jp,i=je jf k/\k<=n/\jb ((l.take k).any (λx=>x.k==2&&x.d==d)=jq)/\wr=v) (λi _=>n-(jE i).toNat)
 case atStart=>exact⟨0,N,jT _,O N,N⟩
 obtain⟨k,rfl,X,B,g⟩:=hrel;rw[g];clear g
 by_cases P:k<n
 ·have Q:=az ((k:jg)<(n:jg))
  have R:=az (k<n);obtain⟨-,-,C⟩:=u.out;obtain⟨g,o,rfl,F⟩:=C Y;obtain⟨y,s,H⟩:=dK (l:=l) (j:=k) (by rw[<-D];exact P);have t:=λi S U=>aC (F k y s i S U) z
  have a:v.cell? ⟨g,o+k*5,jj⟩=jc (je jf y.k):=t 0 _ N;have V:v.cell? ⟨g,o+k*5+1,jj⟩=jc (je jf y.d):=t 1 _ N;obtain⟨r,h,xp,xv,xc⟩:=y;dsimp only at a V;have K:=O H;have W:=O s;clear F H s C t
  by_cases s:r=2
  case neg=>
   have t:(r==2)=jq:=ak s;have F:decide (r=2)=jq:=ak s;have C:jb ((l.take (k+1)).any (λx=>x.k==2&&x.d==d)=jq):=O (by rw[K];exact GJ B (by show(r==2&&_)=jq;rw[t];rfl));clear s
   go_wp2_with fail
   exact⟨⟨k+1,by go_num,by omega,C,by trivial⟩,by simp only[jE];omega⟩
  subst s
  by_cases t:h=d
  case neg=>
   have F:(h==d)=jq:=ak t;have C:jb ((l.take (k+1)).any (λx=>x.k==2&&x.d==d)=jq):=O (by rw[K];exact GJ B (by show(_ &&h==d)=jq;rw[F];rfl));have H:decide (h=d)=jq:=ak t;clear t
   go_wp2_with fail
   exact⟨⟨k+1,by go_num,by omega,C,by trivial⟩,by simp only[jE];omega⟩
  subst t;have C:jb (l.any (λx=>x.k==2&&x.d==h)=jh):=O (qu.2 ⟨_,nv W,by simp⟩)
  go_wp2_with fail
  go_ret;exact⟨by rw[C];rfl,z⟩
 have Q:=aw ((k:jg)<(n:jg));have R:=aw (k<n);obtain rfl:k=n:=Y;have C:jb (l.any (λx=>x.k==2&&x.d==d)=jq):=O (by
  have h:=B.out
  rwa [D,mb]at h)
 go_wp2_with fail
 go_ret;exact⟨by rw[C];rfl,z⟩
theorem Ue(s t:jn jg)(u v:jd)(w:ji)(E:dh w u s)(F:dh w v t)(H:s.length<=1000000)(K:t.length<=1000000):
 jr jo 20 #[u,v] w λe w'=>e=jt (.bool (decide (s=t)))/\jm w w w':=by
 obtain⟨p,c,rfl,M,d⟩:=E;obtain⟨V,W,rfl,P,f⟩:=F;have Q:=O d;have R:=O f;obtain⟨n,a⟩:=J s.length;obtain⟨m,b⟩:=J t.length;have j:=O a;have l:=O b;rw[<-a]at M H⊢;rw[<-b]at P K⊢;clear d f a b
 go_enter func20,ntmps20
 by_cases q:n=m
 case neg=>
  have a:((n:jg)==(m:jg))=jq:=by simp;omega
  have hd2:=aw ((n:jg)=(m:jg));have hd3:decide (n=m)=jq:=ak q;have d:jb (decide (s=t)=jq):=O (decide_eq_false (λh=>q (by rw[j,l,h])));clear q
  go_wp2_with fail
  go_ret;exact⟨by rw[d];rfl,jI _ _⟩
 subst q
 go_wp2_with fail
 go_loopw [5] (λi wr=>∃k:jp,i=je jf k/\k<=n/\jb (s.take k=t.take k)/\jb (jm w w wr)) (λi _=>n-(jE i).toNat)
 case atStart=>exact⟨0,N,jT _,O N,O (jI _ _)⟩
 obtain⟨k,rfl,X,r,f⟩:=hrel
 by_cases x:k<n
 ·have S:=az ((k:jg)<(n:jg))
  have U:=az (k<n);obtain⟨g,o,rfl,i⟩:=Q.out (by rw[<-j];omega);obtain⟨g2,o2,rfl,y⟩:=R.out (by rw[<-l];omega);obtain⟨a,aa,-,z⟩:=Jb i (by rw[<-j];exact x) f;obtain⟨b,ad,-,B⟩:=Jb y (by rw[<-l];exact x) f;have C:=O z;have D:=O B;clear i y z B
  by_cases i:a=b
  case neg=>
   have d:jb (decide (s=t)=jq):=O (decide_eq_false (zX r C D i));have y:(a==b)=jq:=ak i;have z:decide (a=b)=jq:=ak i;clear i
   go_upto_region 6 with fail
   go_quiet (fail)
   go_wp2_with fail
   go_ret;exact⟨by rw[d];rfl,f.trans ⟨rfl,rfl,rfl,jz _,λ_ _=>rfl⟩⟩
  subst i;have y:=O (G3 r C D N)
  go_upto_region 6 with fail
  go_quiet (fail)
  go_wp2_with fail
  exact⟨⟨k+1,by go_num,by omega,y,O (f.trans ⟨rfl,rfl,rfl,jz _,λ_ _=>rfl⟩)⟩,by simp only[jE];omega⟩
 have S:=aw ((k:jg)<(n:jg));have U:=aw (k<n);obtain rfl:k=n:=Y;have d:jb (decide (s=t)=jh):=O (ob (by
  have h:=r.out;rw[qg (by rw[<-j];exact jz _),qg (by rw[<-l];exact jz _)]at h;exact h))
 go_wp2_with fail
 go_ret;exact⟨by rw[d];rfl,f⟩

theorem Rj(w:ji)(o:Obj):jm w w (w.alloc o):=(jI _ w).alloc (jz _) o
def tk(w:ji)(b:jp)(t:jn (jg×jg)):Prop:=∃a,w.cell? ⟨b,0,jj⟩=jc a/\bJ w a t
theorem tk.below{w':ji}{b:jp}{t:jn (jg×jg)}(h:tk w b t)(a:jm w w w'):tk w' b t:=by
 obtain⟨d,c,e⟩:=h;exact⟨d,cJ c (a.block _ (eN c)),e.below a⟩
theorem tk.new{a:jd}{t:jn (jg×jg)}(h:bJ w a t):tk (w.alloc (jk #[a] 27)) w.heap.size t:=
 ⟨a,by unfold World.cell?;rw[jG];rfl,h.below (Rj w _)⟩
theorem Sq(t:jn (jg×jg))(a v:jd)(w:ji)(c:bJ w a t)(d:bJ w v t)(b:t.length<=1000000):
 jr jo 56 #[ja #[a],ja #[v]] w λe w'=>e=jt (.bool jh)/\jm w w w':=by
 have h:=Ly t t a v w c d b b;rw[ob N]at h;exact h
theorem R8(l:LBy)(a:l.length=32)(z:ji):(Op.equalIn 10000 23 (ja (l.map v8).toArray) (ja (l.map v8).toArray)).run jo z=.ok jh z:=by
 have h:=nZ l l a a z;rw[show decide (l=l)=jh from ob N]at h;exact h
theorem Tt(l:jn aJ)(a v:jd)(w:ji)(b:EM.At w a l)(d:EM.At w v l)(D:l.length<=1000000):
 jr jo 55 #[a,v] w λe w'=>e=jt (.bool jh)/\jm w w w':=by
 have g:=b;have h:=d;obtain⟨p,c,rfl,-,-⟩:=b.form;obtain⟨U,s,rfl,-,-⟩:=d.form;have t:=O (g.cells);have u:=O (h.cells);obtain⟨n,f⟩:=J l.length;have E:=O f;rw[<-f]at D t u⊢;clear b d g h f
 go_enter func55,ntmps55
 go_wp2_with fail
 go_loopw [5] (λi wr=>∃k:jp,i=je jf k/\k<=n/\jb (jm w w wr)) (λi _=>n-(jE i).toNat)
 case atStart=>exact⟨0,N,jT _,O (jI _ _)⟩
 obtain⟨k,rfl,V,b⟩:=hrel
 by_cases F:k<n
 ·have H:=az ((k:jg)<(n:jg))
  have K:=az (k<n);obtain⟨-,-,x⟩:=t.out;obtain⟨g,o,rfl,z⟩:=x Y;obtain⟨-,-,B⟩:=u.out;obtain⟨h,m,rfl,C⟩:=B Y;obtain⟨y,q,-⟩:=dK (l:=l) (j:=k) (by rw[<-E];exact F);have d:=λi a r=>aC (z k y q i a r) b
  have f:=λi a r=>aC (C k y q i a r) b
  have M:wr.cell? ⟨g,o+k*3,jj⟩=jc (je jf y.dev):=d 0 _ N;have P:wr.cell? ⟨g,o+k*3+1,jj⟩=jc (je jf y.since):=d 1 _ N;have s:wr.cell? ⟨g,o+k*3+2,jj⟩=jc (je jf y.ver):=d 2 _ N;have Q:wr.cell? ⟨h,m+k*3,jj⟩=jc (je jf y.dev):=f 0 _ N;have R:wr.cell? ⟨h,m+k*3+1,jj⟩=jc (je jf y.since):=f 1 _ N;have S:wr.cell? ⟨h,m+k*3+2,jj⟩=jc (je jf y.ver):=f 2 _ N;obtain⟨md,W,X⟩:=y;dsimp only at M P s Q R S;clear z C q x B d f
  go_upto_region 6 with fail
  go_quiet (fail)
  go_wp2_with fail
  exact⟨⟨k+1,by go_num,by omega,O (b.trans ⟨rfl,rfl,rfl,jz _,λ_ _=>rfl⟩)⟩,by simp only[jE];omega⟩
 have H:=aw ((k:jg)<(n:jg));have K:=aw (k<n)
 go_wp2_with fail
 go_ret;exact⟨N,b⟩
theorem QA(g:Grp)(d f vm vt:jd)(w:ji)(a:bH w g d f)(k:bH w g vm vt)(F:g.mem.length<=1000000)(H:g.tree.length<=1000000):
 jr jo 19 #[ja (aD g d f).toArray,ja (aD g vm vt).toArray] w λe w'=>e=jt (.bool jh)/\jm w w w':=by
 have c:=dy.new w (vm:=d) (vt:=f) a.llen;have j:=ap w (jk (aD g d f).toArray 29);obtain⟨l,h⟩:=J (w.alloc (jk (aD g d f).toArray 29));rw[<-h]at c j;have r:l.heap.size=w.heap.size+1:=by rw[h,j3]
 have i:=dy.new l (vm:=vm) (vt:=vt) a.llen;have m:=ap l (jk (aD g vm vt).toArray 29);obtain⟨s,n⟩:=J (l.alloc (jk (aD g vm vt).toArray 29));rw[<-n]at i m;replace c:=c.below m;have b:=O (j.trans (m.mono j.size));rw[r]at i;obtain⟨K,M,P,t⟩:=c.at;obtain⟨Q,R,S,u⟩:=i.at;have U:=O c.last;have V:=O i.last;have v:jb ((g.last.map v8).length=VD.n):=O (by rw[jO,a.llen];rfl);obtain⟨x,p⟩:=J ((g.last.map v8).toArray);have W:∀z,(Op.equalIn 10000 23 (ja x) (ja x)).run jo z=.ok jh z:=by
  rw[p];exact λz=>R8 g.last a.llen z
 have y:=O p;have o:=O a;have q:=O k;obtain⟨X,B⟩:=J ((aD g d f).toArray);obtain⟨D,C⟩:=J ((aD g vm vt).toArray);rw[<-B]at h⊢;rw[<-C]at n⊢;have E:jb (s=(w.alloc (jk X 29)).alloc (jk D 29)):=O (by rw[n,h]);clear a k c i j m B C h n r p;obtain⟨n,r,B,C,k2,rfl,rfl⟩:∃p c h n' i,d=jl p g.mem.length c/\f=jl h n' i:=by
  obtain⟨p,c,a,-⟩:=o.mem.form;obtain⟨h,n',i,k⟩:=gu o.tree;exact⟨p,c,h,n',i,a,k⟩
 obtain⟨p3,k3,p4,n4,k4,rfl,rfl⟩:∃p c h n' i,vm=jl p g.mem.length c/\vt=jl h n' i:=by
  obtain⟨p,c,a,-⟩:=q.mem.form;obtain⟨h,n',i,k⟩:=gu q.tree;exact⟨p,c,h,n',i,a,k⟩
 go_enter func19,ntmps19
 go_upto_region 1 with fail
 rw[<-E];clear E
 go_wp2_with (first|(refine VD.load ai N N (g.last.map v8) v U ?_;rw[<-y];refine G ?_)|(refine VD.load ai N N (g.last.map v8) v V ?_;rw[<-y];refine G ?_))
 refine(Tt g.mem _ _ s (o.mem.below b) (q.mem.below b) F).mono ?_;rintro e m ⟨rfl,j⟩;replace t:=aC t j;replace u:=aC u j;replace b:=aj b j;clear j K M P Q R S W
 go_wp2_with fail
 refine(Sq g.tree _ _ m (o.tree.below b) (q.tree.below b) H).mono ?_;rintro e E ⟨rfl,j⟩;replace b:=aj b j;clear j
 go_wp2_with fail
 go_ret;exact⟨N,b⟩
theorem Rs(a:jn CP)(v:jd)(w:ji)(d:cF w v a)(g:∀p∈a,p.1.box.length<=jB/\p.1.wel.length<=jB)(q:a.length<=jB):
 jr jo 6 #[v] w λe w'=>(∃b,e=jt (.bool b)/\(b=jh->a.length<=7/\∀p∈a,rq p.1))/\jm w w w':=by
 have z:=O d;have R:=O g;obtain⟨p,c,rfl⟩:=d.form;obtain⟨n,f⟩:=J a.length;have B:=O f;rw[<-f]at q z⊢;replace q:n<=9223372036854775807:=q;clear d g f
 by_cases D:n<=7
 case neg=>
  have E:=az ((7:jg)<(n:jg));have F:=az (7<n);clear D
  go_enter func6,ntmps6
  go_wp2_with fail
  go_ret;exact⟨⟨jq,N,λh=>by cases h⟩,jI _ _⟩
 have aa:=aw ((7:jg)<(n:jg));have ad:=aw (7<n)
 go_enter func6,ntmps6
 go_wp2_with fail
 go_loopw [3] (λi wr=>∃k:jp,i=je jf k/\k<=n/\jb (∀x∈a.take k,rq x.1)/\jb (jm w w wr)) (λi _=>n-(jE i).toNat)
 case atStart=>exact⟨0,N,jT _,O ao,O (jI _ _)⟩
 obtain⟨k,rfl,hk,H,d⟩:=hrel
 by_cases S:k<n
 ·have E:=az ((k:jg)<(n:jg))
  have F:=az (k<n);obtain⟨y,f,K⟩:=dK (l:=a) (j:=k) (by rw[<-B];exact S);have r:=nv f;have s:=z.below d;obtain⟨g,o,c',U,-,-,-,t⟩:=s.elem f;injection U with V W X
  subst V;subst X;have u:=O (s.all y r);have M:=O (R y r);obtain⟨i,m⟩:=y;dsimp only at t;have Vd:=O t;have Vx:jb ((aF i m).length=VC.n):=O (dl _ _ u.plen u.clen);have Vp:=O K;obtain⟨C,P⟩:=J ((aF i m).toArray);have Q:=O P;clear f K r s W t P
  go_wp2_with (first|(refine VC.load ai N N (aF i m) Vx Vd ?_;rw[<-Q];refine G ?_))
  have f:=Nj i m wr u M.1 M.2;rw[<-Q]at f;refine f.mono ?_;rintro e K ⟨⟨b,rfl,r⟩,s⟩;have t:=O r;replace d:=aj d s;clear s r f
  rcases b with _|_
  ·go_wp2_with fail
   go_ret;exact⟨⟨jq,N,λh=>by cases h⟩,d⟩
  go_wp2_with fail
  exact⟨⟨k+1,by go_num,by omega,O (by
   rw[Vp];intro x f
   rcases j1.1 f with f|f
   ·exact H x f
   rw[nn]at f;rw[f];first|exact t N|exact t trivial),d⟩,by simp only[jE];omega⟩
 have E:=aw ((k:jg)<(n:jg));have F:=aw (k<n);obtain rfl:k=n:=Y
 go_wp2_with fail
 go_ret;exact⟨⟨jh,N,λ_=>⟨D,by have h:=H.out;rwa [B,mb]at h⟩⟩,d⟩
abbrev GP:=Grp×jd×jd
def Sm(x:GP):jn jd:=aD x.1 x.2.1 x.2.2
structure oY(w:ji)(v:jd)(l:jn GP):Prop where
 row:aH (·<w.heap.size) w v 36 l.length (l.flatMap Sm)
 all:∀x∈l,bH w x.1 x.2.1 x.2.2
theorem oY.below{w':ji}{v:jd}{l:jn GP}(h:oY w v l)(a:jm w w w'):oY w' v l:=
 ⟨(h.row.keep λg b=>a.block g b).mono λg b=>jw b a.size,λp c=>(h.all p c).below a⟩
theorem oY.form{d:jd}{l:jn GP}(h:oY w d l):∃p c,d=jl p l.length c:=h.row.form
theorem oY.elem{d:jd}{l:jn GP}(h:oY w d l){i:jp}{x:GP}(a:l[i]?=jc x):
 ∃g o c,d=jl (jc ⟨g,o,jj⟩) l.length c/\g<w.heap.size/\l.length<=c/\i<l.length/\w.rangeAt g (o+i*36) (aD x.1 x.2.1 x.2.2):=h.row.rowM N (λx b=>eX (h.all x b).llen) a
section
variable{e:jC}{w:ji}{xs:jn jd}{sz:jp}
structure eK(e:jC)(sz:jp)(w:ji)(g:jp)(v:jd)(n:jp)(xs:jn jd):Prop where
 len:xs.length=n*sz
 ex:∃o a b,v=jl (jc ⟨g,o,jj⟩) n a/\w.heap[g]?=jc (jk b e (0,0))/\n<=a/\a<=jB/\o+a*sz<=b.size/\∀(j:jp) c,xs[j]?=jc c->b[o+j]?=jc c
theorem eK.of_own{B n:jp}{v:jd}(h:w.ownsRow B e sz v n xs)(l:0<n):∃g,v.ownBlock=jc g/\eK e sz w g v n xs:=by
 rcases h.2 with⟨-,m⟩|⟨g,b,c,rfl,o,d,f,i,p,k⟩
 ·omega
 refine⟨g,N,h.1,0,b,c,N,d,f,i,by omega,λj q a=>?_⟩;rw[<-k,qv]at a
 split at a
 ·rw[ow];simpa using a
 cases a
theorem eK.row{g n:jp}{v:jd}(h:eK e sz w g v n xs):cH w v sz n xs:=by
 obtain⟨a,o,b,l,rfl,c,d,m,p,f⟩:=h;exact⟨a,_,b,N,d,(λe=>by cases e),λ_=>⟨g,o,N,λj i k=>ah c (f j i k)⟩⟩
theorem eK.lt{B b d:jp}{f:jd}{a:jn jd}(h:eK e b w B f d a):B<w.heap.size:=by
 obtain⟨_,_,_,_,_,xs,_⟩:=h;exact(jN.1 xs).1
theorem eK.keep{w':ji}{g n:jp}{v:jd}(h:eK e sz w g v n xs)(a:w'.heap[g]?=w.heap[g]?):eK e sz w' g v n xs:=by
 obtain⟨b,o,c,d,rfl,f,i⟩:=h;exact⟨b,o,c,d,N,a.trans f,i⟩
theorem eK.cells{g n:jp}{v:jd}(h:eK e sz w g v n xs):∃c,w.heap[g]?=jc (jk c e (0,0)):=by
 obtain⟨_,_,_,a,_,b,_⟩:=h;exact⟨a,b⟩
section
variable {P:Program}
theorem eK.tail{g n:jp}{t:jC}{v:jd}{ys:jn jd}(h:eK e sz w g v (n+1) (ys++xs))(k:ys.length=sz)(b:P.underlying t=jc (.slice e))(s:∀w,(sizeOf e).run P w=.ok sz w):
 ∃l,eK e sz w g l n xs/\∀W,(Instr.sliceAt t v (jc (je jf 1)) jj jj).run P W=.ok l W:=by
 obtain⟨u,o,c,m,rfl,p,z,B,x,y⟩:=h;have he:P.elem t=e:=by simp[Program.elem,b]
 have d:xs.length=n*sz:=by rw[jU,k,pz]at u;omega
 have q:∀W,(Instr.sliceAt t (jl (jc ⟨g,o,jj⟩) (n+1) c) (jc (je jf 1)) jj jj).run P W=.ok (jl (jc (if c=1 then⟨g,o,jj⟩else⟨g,o+sz,jj⟩)) n (c-1)) W:=λW=>by
  rw[run_sliceAt_slice W t _ _ _ _ (by rw[he];exact b),run_slice_l W t _ (n+1) c (by rw[he];exact b) .i64 _ Y Y,he];simp[s,Result.andThen,sliced,Addr.add]
  by_cases h:c=1
  ·subst h;simp
  have a:c-1≠0:=Y;simp[h,a]
 by_cases f:c=1
 ·refine⟨_,⟨d,o,c-1,m,by rw[jA f],p,by omega,by omega,by subst f;omega,λj r i=>?_⟩,q⟩
  have a:=(jS.1 i).1;have:n=0:=Y;rw[d,this,Nat.zero_mul]at a;omega
 refine⟨_,⟨d,o+sz,c-1,m,by rw[if_neg f],p,by omega,by omega,?_,λj r i=>?_⟩,q⟩
 ·have a:c=(c-1)+1:=Y
  rw[a,pz]at x;omega
 have a:=y (sz+j) r (by rw[jX Y,k,Nat.add_sub_cancel_left];exact i);rw[Nat.add_assoc];exact a
theorem QW(w:ji)(t l e:jC)(i:TypeInfo)(n:P.underlying t=jc (.slice e))(p:P.info? e=jc i)
 (g o d k:jp) (f:ju jd) (q:w.heap[g]?=jc (jk f e (0,0)))
 (a:Addr) (m c:jp) (b:jn jd) (r:b.length=m*i.size) (s:∀j h,b[j]?=jc h->w.cell? (a.add j)=jc h) (j:∀h∈b,h.oneCell'=jh)
 (u:d+m<=k) (v:o+d*i.size+b.length<=f.size):
 (Builtin.append_ #[t,t] l #[jl (jc ⟨g,o,jj⟩) d k,jl (jc a) m c]).run P w=
  .ok (jl (jc ⟨g,o,jj⟩) (d+m) k) (w.setRow g (f.toList.take (o+d*i.size)++b++f.toList.drop (o+d*i.size+b.length)).toArray):=by
 have x:=run_firstCells_some (P:=P) w i.size m a m c b r s;have h:=run_storeCells_at P g (o+d*i.size) e b 0 f w q (ak v) j;simp only[Nat.add_zero]at h;simp[Builtin.append_,run_underlying n,sizeOf,typeInfo,p,Builtin.lenOf,u,x,Addr.add_lit,h]
theorem Lv(w:ji)(t x e:jC)(i:TypeInfo)(z:jd)(sz y:jp)(B:P.underlying t=jc (.slice e))(C:P.info? e=jc i)(V:i.zero=jc z)
 (Q:i.size=sz) (W:i.bytes=y) (X:z.cells.size=sz) (aa:0<sz) {g n:jp} {v:jd} {xs:jn jd} (h:eK e sz w g v n xs) {a:jd} {m:jp} {ys:jn jd} (hu:cH w a sz m ys) (h1:∀a∈ys,a.oneCell'=jh)
 (ad:n+m<=jB) (au:(n+m)*y<=140737488355328):
 ∃s w' g',(Builtin.append_ #[t,t] x #[v,a]).run P w=.ok s w'/\eK e sz w' g' s (n+m) (xs++ys)/\w.grownBy w' (jc g)/\(g'=g\/w.heap.size<=g'):=by
 obtain⟨D,o,d,q,rfl,f,R,S,ax,E⟩:=h;obtain⟨u,p,c,rfl,hc,hp,ay⟩:=hu
 rcases p with _|F
 ·obtain rfl:=hp N
  obtain rfl:m=0:=Y;obtain rfl:ys=[]:=List.eq_nil_of_length_eq_zero Y;refine⟨_,w,g,?_,⟨by rw[qe];exact D,o,d,q,N,f,R,S,ax,λj a b=>E j a (ak b)⟩,World.grownBy.refl _ _,.inl N⟩;simp[Builtin.append_,run_underlying B,sizeOf,typeInfo,C,Builtin.lenOf,Builtin.firstCells,R,storeCells]
 have U:∀(j:jp) a,ys[j]?=jc a->w.cell? (F.add j)=jc a:=by
  intro j a b;have l:=(jS.1 b).1;obtain⟨g,o,e,f⟩:=ay (by
   rcases Nat.eq_zero_or_pos m with k|k
   ·rw[u,k]at l;omega
   exact k)
  obtain rfl:=Option.some.inj e;rw[uV];exact f j a b
 have a1:(xs++ys).length=(n+m)*sz:=by rw[jU,D,u,pz]
 by_cases H:n+m<=d
 ·subst Q
  have a2:o+n*i.size+ys.length<=q.size:=by
   have r:(n+m)*i.size<=d*i.size:=Nat.mul_le_mul_right _ H;rw[pz]at r;omega
  have K:=QW w t x e i B C g o n d q f F m c ys u U h1 H a2;refine⟨_,_,g,K,⟨a1,o,d,_,N,jZ _ _ _ _ _ _ f,H,S,?_,λj a b=>?_⟩,⟨N,N,N,by rw[setRow_size];exact jz _,λk _ M=>jM _ _ _ _ λe=>M (by rw[e])⟩,.inl N⟩
  ·rw[jD,jU,jU,p6,List.length_drop,j0]
   omega
  rw[jY]
  by_cases a3:j<xs.length
  ·rw[qh,n0 (by rw[p6,j0];omega),qv,jA Y,qw]
   exact E j a (by rwa [n0 a3]at b)
  rw[jX Y]at b;have r:=(jS.1 b).1;have l:q.toList.length=q.size:=j0;rw[qh,jX (by rw[p6,j0];omega),p6,j0,n0 Y];rw[<-b]
  congr 1
  omega
 obtain⟨s,w',K,r,l⟩:=run_append_arg_grows (P:=P) w t x e i z sz y B C V Q W X aa ⟨g,o,jj⟩ n d xs D (λj a b=>by rw[uV];exact ah f (E j a b)) F m c ys u U Y ad au;obtain⟨g',b,h4⟩:=eK.of_own r Y;exact⟨s,w',g',K,h4,⟨l.os,l.tape,l.output,l.size,λk M _=>l.block k M ao⟩,.inr (r.lt g' b).1⟩
theorem eC.wpList_appendQ(R:eC P){d:ju jL}{e:Exit->Act->ji->Prop}{f:jn jL}{o:jL}{a:Act}{w:ji}(j:o.guard=jj)(s x:j7)(k:o.op=.call {callee:=.builtin .append,args:=#[s,x],argTypes:=#[R.t,R.t]})
 {g n:jp} {v:jd} {xs:jn jd} (l:a.eval s=v) (h:eK R.e R.k w g v n xs) {b:jd} {m:jp} {ys:jn jd} (p:a.eval x=b) (q:cH w b R.k m ys) (r:∀b∈ys,b.oneCell'=jh) (t:n+m<=1000000)
 (u:∀c w' g',eK R.e R.k w' g' c (n+m) (xs++ys)->w.grownBy w' (jc g)->(g'=g\/w.heap.size<=g')->wpList P d e f (a.put o.dst c) w'):wpList P d e (o::f) a w:=by
 refine oj j λK y=>?_
 obtain⟨c,w',g',z,i,B,C⟩:=Lv (P:=P) w R.t o.type R.e R.i R.z R.k R.b R.ht R.hi R.hz R.hs R.hb R.hzs R.h0 h q r (by unfold jB;omega) (by
  have:=R.hbb;have i:(n+m)*R.b<=1000000*8000:=Nat.mul_le_mul t this
  omega)
 unfold Oper.wp j6;simp only[k,resolve,invoke,builtin,Sem.run_bind,Sem.run_pure,Result.andThen_ok,qi,jR,jH,l,p,z];exact y _ _ (u c w' g' i B C)
end
end
theorem Qy{l:jn Cmt}{S:aR}(h:fC a b l=jc S):fc l (aM a) S:=by
 obtain⟨d,e,f⟩:=F5 h;exact⟨d,(ud d).par,λj g=>by rw[e];exact f j g⟩
noncomputable def pU(a:jg)(b:LBy)(l:jn Cmt):jn aR:=match fC a b l with|none=>[]|some c=>sO l c
def ixs(a:jn CK):jn jd:=a.map λk=>jy .i64 (k.ix:jp)
def gcs(a:jn CK):jn jd:=a.flatMap λk=>aD k.g k.vm k.vt
structure ASt(d:jn CP)(f:jg)(h:LBy)(c:jp)(w W:ji)(e:aR)(a:jn CK)(k:jp)(u1 u2:jd)(g:jp)(q:jd):Prop where
 seq:a.map CK.cand=eG (d.map (·.1)) e k
 own1:W.ownsRow c RI.e RI.k u1 k (ixs (a.take k))
 own2:W.ownsRow c RG.e RG.k u2 k (gcs (a.take k))
 que:eK RK.e RK.k W g q (a.length-k) ((a.drop k).flatMap aL)
 qlow:c<=g
 all:∀x∈a,KD (λb=>gb x b/\b<W.heap.size) d W x
 off:∀x∈a,∀b,gb x b->u1.ownBlock≠jc b/\u2.ownBlock≠jc b/\g≠b
 bel:jm c w W
 le:k<=a.length
theorem ASt.below{e:jn CP}{f:jg}{i:LBy}{d k g:jp}{W j:ji}{l:aR}{u1 u2 q:jd}(h:ASt e f i d w W l m k u1 u2 g q)(a:jm W W j)(n:d<=W.heap.size):ASt e f i d w j l m k u1 u2 g q:=
 ⟨h.seq,cP h.own1 a,cP h.own2 a,h.que.keep (a.block g h.que.lt),h.qlow,λx o=>((h.all x o).keep λb c=>a.block b c.2).mono λb c=>⟨c.1,jw c.2 a.size⟩,h.off,h.bel.trans (a.mono n),h.le⟩
theorem Pm(a:jn CK)(x:CK):ixs (a++[x])=ixs a++[jy .i64 (x.ix:jp)]:=by unfold ixs;rw[qx];rfl
theorem Qx(a:jn CK)(x:CK):gcs (a++[x])=gcs a++aD x.g x.vm x.vt:=by unfold gcs;rw[qy,List.flatMap_singleton]
theorem DY{i:CK}(h:m[x]?=jc i):m.take (x+1)=m.take x++[i]:=by
 rw[List.take_succ_eq_append_getElem (jS.1 h).1,(jS.1 h).2]
theorem Eo{i:CK}(h:m[x]?=jc i):m.drop x=i::m.drop (x+1):=by
 rw[List.drop_eq_getElem_cons (jS.1 h).1,(jS.1 h).2]
theorem ASt.step{u:jn CP}{Q:jg}{R:LBy}{v k g g':jp}{W p j r n:ji}{S:aR}{l Ks:jn CK}{x:CK}{u1 u2 q y B U y1 y2:jd}(h:ASt u Q R v w W S l k u1 u2 g q)(C:l[k]?=jc x)(a3:v<=W.heap.size)(o:jm W W p)
 (Yl:y1.cells.toList=[je jf (x.ix:jp)]) (au:y2.cells.toList=aD x.g x.vm x.vt) (d:zS RI RG v p j u1 u2 y B (k+1) (k+1) (ixs (l.take k)++y1.cells.toList) (gcs (l.take k)++y2.cells.toList))
 (s:jm j j r) (V:∀z∈Ks,KD (λb=>j.heap.size<=b/\b<r.heap.size) u r z) (hK:Ks.map CK.cand=eS x.g (u.map (·.1))) (m:r.grownBy n (jc g)) (t:g'=g\/r.heap.size<=g')
 (E:eK RK.e RK.k n g' U (l.length-(k+1)+Ks.length) ((l.drop (k+1)).flatMap aL++Ks.flatMap aL)):ASt u Q R v w n S (l++Ks) (k+1) y B g' U:=by
 have hk:=(jS.1 C).1;obtain⟨X,F⟩:=h.que.cells;have ax:=h.que.lt;have aa:=o.size;have ay:=s.size;have a1:p.heap[g]?=jc (jk X RK.e (0,0)):=av F o;have e1:u1.ownBlock≠jc g:=cQ h.own1 F L;have e2:u2.ownBlock≠jc g:=cQ h.own2 F L;have ad:j.heap[g]?=jc (jk X RK.e (0,0)):=(d.heap g (jw ax aa) e1 e2).trans a1;have a4:p.heap.size<=j.heap.size:=d.bel.size;have d1:y.ownBlock≠jc g:=cQ d.own1 ad L;have d2:B.ownBlock≠jc g:=cQ d.own2 ad L;have s4:∀b,b<j.heap.size->b≠g->n.heap[b]?=j.heap[b]?:=λb a H=>(m.block b (jw a ay) λe=>H (by injection e)).trans (s.block b a)
 have s0:∀b,b<W.heap.size->b≠g->u1.ownBlock≠jc b->u2.ownBlock≠jc b->n.heap[b]?=W.heap[b]?:=λb a H i h2=>(s4 b Y H).trans ((d.heap b (jw a aa) i h2).trans (o.block b a))
 have a2:W.heap.size<=n.heap.size:=by have:=m.size;omega
 have a5:∀b,y.ownBlock=jc b->b=g'->False:=λb a e=>by
  rcases t with rfl|D
  ·exact d1 (e▸a)
  have:=(d.own1.lt b a).2;omega
 have a6:∀b,B.ownBlock=jc b->b=g'->False:=λb a e=>by
  rcases t with rfl|D
  ·exact d2 (e▸a)
  have:=(d.own2.lt b a).2;omega
 refine⟨?_,?_,?_,?_,?_,?_,?_,?_,?_⟩
 ·rw[qx,h.seq,eG,rh (c:=x.cand) (by rw[<-h.seq,o8,C];rfl),hK];rfl
 ·rw[qz Y,DY C,Pm,<-Yl]
  exact iF d.own1 λb a=>s4 b (d.own1.lt b a).2 λe=>d1 (e▸a)
 ·rw[qz Y,DY C,Qx,<-au]
  exact iF d.own2 λb a=>s4 b (d.own2.lt b a).2 λe=>d2 (e▸a)
 ·rw[List.drop_append_of_le_length Y,qy,jU,show l.length+Ks.length-(k+1)=l.length-(k+1)+Ks.length by omega]
  exact E
 ·rcases t with rfl|D
  ·exact h.qlow
  omega
 ·intro z f
  rcases j1.1 f with f|f
  ·refine((h.all z f).keep λb a=>?_).mono λb a=>⟨a.1,by omega⟩
   obtain⟨K,M,P⟩:=h.off z f b a.1;exact s0 b a.2 (Ne.symm P) K M
  have i:=(V z f).keep λb a=>m.block b a.2 λe=>by injection e with e;omega
  refine(KD.own i).mono λb a=>⟨a.1,by have:=m.size;have:=a.2;omega⟩
 ·intro z f b a
  rcases j1.1 f with f|f
  ·obtain⟨K,M,P⟩:=h.off z f b a
   have ba:=(rK (h.all z f) a).2;refine⟨λe=>?_,λe=>?_,λe=>?_⟩
   ·rcases d.lie1 with i|i
    ·exact K (i▸e)
    have:=i b e;omega
   ·rcases d.lie2 with i|i
    ·exact M (i▸e)
    have:=i b e;omega
   rcases t with rfl|D
   ·exact P e
   omega
  have i:=rK (V z f) a;refine⟨λe=>?_,λe=>?_,λe=>?_⟩
  ·have:=(d.own1.lt b e).2;omega
  ·have:=(d.own2.lt b e).2;omega
  have:=(jN.1 (h.que.cells).choose_spec).1
  rcases t with rfl|D
  ·omega
  subst e;obtain⟨-,-,-,-,-,h2,-⟩:=E;omega
 ·have f:jm 0 p j:=d.bel
  refine h.bel.trans ⟨m.os.trans (s.os.trans (f.os.trans o.os)),m.tape.trans (s.tape.trans (f.tape.trans o.tape)),m.output.trans (s.output.trans (f.output.trans o.output)),a2,λb a=>?_⟩;have E:=h.qlow;exact s0 b Y Y (λe=>by have:=(h.own1.lt b e).1;omega) (λe=>by have:=(h.own2.lt b e).1;omega)
 rw[jU];omega
theorem Ck{D:jp->Prop}(e:jC)(sz:jp):aH D w (jl jj 0 0) sz 0 []:=aH.of_own (qj w 0 e sz) λg a=>by simp[qk]at a
def Mk:jd->jp
 | .slice _ n _=>n
 |_=>0
theorem Ko(d:jn CP)(v:jd)(aa:jg)(U:LBy)(h:U.length=32)(w:ji)(a:cF w v d)(l:∀p∈d,cT (aP p.1))(m:bS w)(o:d.length<=1000):
 jr jo 17 #[ja (dz aa U).toArray,v] w λe w'=>∃(u1 u2:jd) (Ks:jn CK),e=jt (jv #[u1,u2])/\Ks.map CK.cand=pU aa U (d.map (·.1))/\aH (λb=>w.heap.size<=b/\b<w'.heap.size) w' u1 1 Ks.length (ixs Ks)/\
  aH (λb=>w.heap.size<=b/\b<w'.heap.size) w' u2 36 Ks.length (gcs Ks)/\(∀k∈Ks,KD (λb=>b<w'.heap.size) d w' k)/\jm w w w':=by
 obtain⟨p1,k1,rfl⟩:=a.form;obtain⟨FA,f⟩:=J ((dz aa U).toArray);have bf:jb (FA.size=VF.n):=O (by rw[f,jD];unfold dz;rw[qA,jO,h];rfl);rw[<-f];obtain⟨x0,M,q,r,j,g⟩:=cX w FA VF.t;have s:=O (pX d _ x0 (a.below g) l (m.below g) o);have t:=O q;have HM:=O r;have c:=O g;have HL:=O a;have HE:=O l;have HT:=O m;have HN:=O o;have bg:=O f;have bh:=O h;clear q r g a l m o f h
 go_enter func17,ntmps17
 go_wp2_with fail
 rw[<-HM];change jr _ _ _ (w.alloc (jk FA VF.t)) _;rw[<-t];refine s.mono ?_;rintro e x1 ⟨v2,v3,rfl,g,r⟩;have m:=O g;replace j:=ae j r;replace c:=aj c r;obtain⟨F,f⟩:=J (#[Value.slice p1 d.length k1,v2,v3]);have a2:jb (F.size=VP.n):=O (by rw[f];rfl);have Yu:jb (F.all (·.oneCell')=jh):=O (by
  obtain⟨a,b,h⟩:=g.ids.form;obtain⟨a',o,l⟩:=g.at_.form;rw[f,h,l];simp[qB])
 have a5:=O f;rw[<-f];clear g r s t f
 go_upto_region 2 with(first|(refine VP.made N N (G ?_))|(refine VP.first N N N F N a2 Yu (G ?_)))
 obtain⟨x2,H,s,a,f,r⟩:=cX x1 F VP.t;rw[<-s,<-a];replace j:=ae j r;replace c:=aj c r;have YD:jb (∀W,jm x2 x2 W->iw (·<W.heap.size) W (jl p1 d.length k1) v2 v3 d):=O λW hW=>by
  have l:=r.trans (hW.mono r.size);exact((m.mono λg o=>o.2).below l)
 have a6:jb (∀W,jm x2 x2 W->bS W):=O λW hW=>HT.below (c.trans (hW.mono c.size))
 have l:=FE d (jl p1 d.length k1) v2 v3 aa U bh x2 (YD _ (jI _ _)) HE (a6 _ (jI _ _)) HN;rw[<-bg,<-a5]at l;replace l:=O l;have bi:jb (H<x2.heap.size):=O (jN.1 f).1;clear s a r m
 go_wp2_with (first|(refine VP.loadA ai N N F a2 f (G ?_))|(refine VF.loadA ai N N FA bf j (G ?_)))
 refine l.mono ?_;rintro e x3 ⟨C,o,rfl,q,t,x,y,K⟩;have Yq:=O q;have bk:=O t;have m:=O x;have u:=O y;have S:=O K;replace f:=ae f K;clear q t x y K l j
 go_upto_region 3 with(first|(refine VK.made N N (G ?_))|(refine VK.first N N N C N Yq bk (G ?_)))
 obtain⟨q,bl,s,a,R,j⟩:=cX x3 C VK.t;rw[<-s,<-a];replace f:=ae f j;have t:jb (jm x2 x2 q):=aj S j;have x:jb (jm w w q):=O (c.trans (t.mono c.size));have bT:jb (bl<q.heap.size):=O (jN.1 R).1
 rcases o with _|_
 ·have l:=O (u N)
  clear s a j m u
  go_wp2_with fail
  go_ret2;refine⟨_,_,[],N,by unfold pU;rw[l];rfl,Ck 0 _,Ck 0 _,(λk hk=>by cases hk),x⟩
 obtain⟨D,y,z,l⟩:=m N;have B:jb (KD (λb=>x2.heap.size<=b/\b<q.heap.size) d q D):=O ((z.keep λb a=>j.block b a.2).mono λb a=>⟨a.1,jw a.2 j.size⟩);have bm:=O y;have Yo:=O l;have VS:=O (Qy l);clear s a j m u y z l
 go_upto_block 0 with(first|(refine VK.loadA ai N N C Yq R (G ?_))|(refine oj N λ_ Q=>RK.wp_build (.tmp 21) N (ja C) N Yq (Q _ _ ?_);clear Q;refine G ?_))
 rw[show(j4 C).cells=C from N];obtain⟨V,g0,s,a,X,m⟩:=cX q C RK.e;rw[<-s,<-a];obtain⟨l,au⟩:∃l:jn Cmt,l=d.map (·.1):=⟨_,N⟩;have VA:=O au;have ax:jb (KIn q D):=O ((YD _ t.out).list|>B.kin);have ay:jb (C.toList=aL D):=O (by rw[bm]);have Wb:jb (ASt d aa U q.heap.size V V D.cand [D] 0 (jl jj 0 0) (jl jj 0 0) g0 (jl (jc ⟨g0,0,jj⟩) 1 1)):=O (by
  refine⟨N,qj _ _ _ _,qj _ _ _ _,⟨?_,0,1,C,N,X,jz _,by unfold jB;omega,by rw[Yq];exact jz _,λj u hj=>?_⟩,ql a.symm,λz y=>?_,λz y b ad=>?_,jI _ _,jT _⟩
  ·show(aL D++[]).length=1*143
   rw[qe,ax.len]
  ·rw[ow,<-qw,ay]
   simpa using hj
  ·rw[nn]at y;subst y
   exact(KD.own (B.keep λb a=>m.block b a.2)).mono λb a=>⟨a.1,jw a.2.2 m.size⟩
  rw[nn]at y;subst y;have h1:=rK B ad;exact⟨by simp[qk],by simp[qk],by omega⟩)
 have UH:jb (jm x2 x2 V):=aj t m;have ba:jb (jm w w V):=aj x m;have ad:jb (V.heap.size=q.heap.size+1/\w.heap.size<=q.heap.size/\x2.heap.size<=q.heap.size):=O ⟨by rw[s];exact j3 _ _,x.size,t.size⟩;have bn:jb (V.heap[H]?=jc (jk F VP.t (0,0))):=ae f m;clear s a m au X f R ax ay t x B S c
 go_wp2_with fail
 go_loopw [4,5,9] (λf t x wr=>∃(j:jn CK) (k g o c m:jp) (q1 q2:Option Addr) (d1 d2:jp),f=jl q1 k d1/\t=jl q2 k d2/\x=jl (jc ⟨g,o,jj⟩) m c/\jb (m=j.length-k)/\jb (ASt d aa U q.heap.size V wr D.cand j k f t g x)) (λf _ _ _=>d.length-Mk f)
 case atStart=>exact⟨[D],0,g0,0,1,1,jj,jj,0,0,N,N,N,O N,Wb⟩
 obtain⟨j,k,g,o,c,m,q1,q2,d1,d2,rfl,rfl,rfl,au,f⟩:=hrel;clear Wb;have Ye:jb (j.length<=d.length):=O (by
  have h:=(BJ VS k).len VS;rw[<-f.seq,jO,jO]at h;exact h)
 by_cases a3:0<m
 case neg=>
  have hd:=aw (0<(m:jg));have UN:=aw (0<m);have Yz:jb (j.length=k):=O (by have:=au.out;have:=f.le;omega)
  go_wp2_with fail
  go_ret2;have t:w.heap.size<=q.heap.size:=ad.2.1;have x:j.take k=j:=qg (ql Yz);refine⟨_,_,j,N,?_,?_,?_,λz y=>(f.all z y).mono λb a=>a.2,ba.trans (f.bel.mono t)⟩
  ·unfold pU
   rw[Yo];have h:=f.seq;have h2:(eG (d.map (·.1)) D.cand k).length<=k:=by rw[<-h,jO,Yz];exact jz _
   rw[h];exact(Nm VS h2 (by rw[jO,<-Yz];exact Ye)).symm
  ·have h:=f.own1
   rw[x]at h;rw[Yz];exact aH.of_own h λb a=>⟨jK t (h.lt b a).1,(h.lt b a).2⟩
  have h:=f.own2;rw[x]at h;rw[Yz];exact aH.of_own h λb a=>⟨jK t (h.lt b a).1,(h.lt b a).2⟩
 have hd:=az (0<(m:jg));have UN:=az (0<m);obtain⟨x,ax⟩:∃x,j[k]?=jc x:=⟨_,List.getElem?_eq_getElem (aI au)⟩;have Vm:=nv ax;have ay:jb (cF wr (jl p1 d.length k1) d):=O (HL.below (ba.trans (f.bel.mono ad.2.1)));have B:=(f.all x Vm).kin ay;have a4:jb ((aL x).length=VK.n):=O B.len;have Vd:jb (wr.rangeAt g o (aL x)):=O λt u ht=>by
  obtain⟨-,p,c',S,-,-,h3⟩:=f.que.row;injection S with S e2 e3
  obtain⟨g',o',R,h4⟩:=h3 (aI au);rw[<-S]at R;injection R with R
  injection R with R X
  rw[R,X];exact h4 t u (by rw[Eo ax,mz,n0 (jS.1 ht).1];exact ht)
 obtain⟨X,p⟩:=J ((aL x).toArray);have HX:=O p;have bo:jb (X.size=VK.n):=O (by rw[p,jD];exact a4);have U5:jb (X.all (·.oneCell')=jh):=O (by rw[p,j5];exact λu S=>B.ones u (ak S));have bp:jb (X[0]?=jc (je jf (x.ix:jp))):=O (by rw[p];simpa using(mO B).1);have Wm:jb (∀z:ji,∀b,z.heap[b]?=jc (jk X VK.t (0,0))->z.rangeAt b 107 (aD x.g x.vm x.vt)):=O λz b y t u ht=>ah y (by
  rw[p,jY];have h:=nI B (1+t);rw[<-Nat.add_assoc,Nat.add_comm 1 t,List.getElem?_cons_succ]at h;exact h.trans ht)
 have WB:jb ((aD x.g x.vm x.vt).length=VG.n):=O (eX B.leads.llen);have Vy:jb (∀u∈aD x.g x.vm x.vt,u.oneCell'=jh):=O (mc B.leads);have bb:jb (x.g.mem.length<=900000/\x.g.tree.length<=600000):=O (by
  have hi:=BJ VS k;obtain⟨gx,R,-⟩:=hi.at VS (i:=k) (c:=x.cand) (by rw[<-f.seq,o8,ax];rfl);have h:=nN (gY (ud R.ok));rw[<-R.ok.leads]at h;have h1:x.g.mem.length<=512:=h.1;have h2:x.g.tree.length<=1023:=h.2;exact⟨by omega,by omega⟩)
 obtain⟨GA,R⟩:=J ((aD x.g x.vm x.vt).toArray);have Vb:=O R;have Yr:=O ax;clear p R ax B Vm ay
 go_upto_region 9 with(first|(refine VK.load ai N N (aL x) a4 Vd ?_;rw[<-HX];refine G ?_)|(refine VK.made N N (G ?_))|(refine VK.first N N N X N bo U5 (G ?_)))
 obtain⟨y1,bx,s,a,bc,r⟩:=cX wr X VK.t;rw[<-s,<-a];have ax:=bX y1;obtain⟨y2,ay⟩:=J y1.drew;rw[<-ay]at ax;have R:jm wr wr y2:=r.trans (ax.mono r.size);have p:=O R;have B:=av bc ax;have R1:=cP f.own1 R;have R2:=cP f.own2 R;have a1:jb (q.heap.size<=wr.heap.size):=O (by have:=f.bel.size;have:=ad.1;omega);have bq:q.heap.size<=y2.heap.size:=jK a1 R.size;have bd:jb (k<=1000000):=O (by have:=f.le;have:=Ye.out;have:=HN.out;omega);refine j8 ?_;refine fN (λW'=>W'.heap[bx]?=jc (jk X VK.t (0,0))) 10 (.t 0 (.t 1 (.t 2 (.t 5 (.t 6 (.t 7 (rY id (.o 10 (.o 11 .done))))))))) af af af af L (λ_ _ _ _ h=>h) (by rw[<-ay];exact B) ?_;rw[<-ay];clear s a r ax ay R;iterate 2 refine cr ?_
 (refine cL (v:=?_) N ai (λW' r=>?_) ?_;rotate_left;(have s:=ah (i:=0) r bp;clear r;go_simp;with_reducible rfl);refine G ?_)
 iterate 2 refine cr ?_
 (refine cL (v:=ja GA) N ai (λW' r=>by rw[Vb];exact gm _ _ VG.t _ N _ _ N _ VG.d (Wm W' _ r) VG.hu VG.hd (by rw[WB];exact VG.hi)) ?_;refine G ?_)
 refine Ae RI RG (T0:=id) (E:=id) (r1:=34) (r2:=35) (rb:=39) (r3:=40) (s1:=33) (s2:=38) (t1:=31) (t2:=36) af (λ_ _ _ _ h=>h) af af
  rfl rfl rfl rfl rfl rfl rfl rfl rfl rfl rfl rfl rfl rfl rfl rfl (show 34<49 by decide) (show 39<49 by decide) L L L L L L
  (λa' v=>rfl) (λa'=>rfl) (λa'=>rfl) (λa'=>rfl) (λa' w' R h r=>r)
  (x1:=je jf (x.ix:jp)) (x2:=ja GA) (u1:=jl q1 k d1) (u2:=jl q2 k d2) rfl rfl rfl rfl rfl (by rw[Vb];exact WB) (by simp[ms,qB]) (λu S=>Vy u (by rw[Vb]at S;simpa [ms]using S)) R1 R2 (AQ R1 R2 L) bd bd bq ?_ ?_
 ·intro w' hk r
  exact(hk _ (jN.1 B).1 (cQ R1 B L) (cQ R2 B L)).trans B
 rintro z1 z2 b0 b1 s R;obtain⟨br,bs,rfl⟩:=cO R.own1;obtain⟨bu,bv,rfl⟩:=cO R.own2;have bw:jb (s.heap[bx]?=jc (jk X VK.t (0,0))):=O ((R.heap _ (jN.1 B).1 (cQ R1 B L) (cQ R2 B L)).trans B);have r:=O R;clear R B R1 R2 bc;refine G ?_;refine nH N L af (λB Q=>?_);go_simp;refine Q _ _ ?_;clear Q;refine G ?_;refine nH N L af (λB Q=>?_);go_simp;refine Q _ _ ?_;clear Q;refine G ?_;refine fa ?_;have Vn:jb (jm x2 x2 s):=O (by
  have B:=r.bel;refine UH.trans ((f.bel.mono ad.2.2).trans ⟨B.os.trans p.os,B.tape.trans p.tape,B.output.trans p.output,jK p.size B.size,λb a=>?_⟩);have h1:=ad.2.2;have h2:=a1.out;have h3:=p.size;exact(r.heap b Y (λe=>by have:=(f.own1.lt b e).1;omega) (λe=>by have:=(f.own2.lt b e).1;omega)).trans (p.block b Y))
 have bc:jb (s.heap[H]?=jc (jk F VP.t (0,0))):=O (by
  have h1:=ad.2.2;have h2:=a1.out;have h3:=p.size;have h4:=bi.out;exact(r.heap H Y (λe=>by have:=(f.own1.lt H e).1;omega) (λe=>by have:=(f.own2.lt H e).1;omega)).trans ((p.block H Y).trans ((f.bel.block H Y).trans bn)))
 have bA:=O (Wm s bx bw);have bB:jb (bH s x.g x.vm x.vt):=O (by
  have h:=f.all x (nv Yr);refine(h.keep λb a=>?_).grp.grp;obtain⟨B,Q,-⟩:=f.off x (nv Yr) b a.1;exact(r.heap b (jw a.2 p.size) B Q).trans (p.block b a.2))
 have Q:=EZ d (jl p1 d.length k1) v2 v3 x.g x.vm x.vt s (YD _ Vn.out) bB HE (a6 _ Vn.out) HN bb.1 bb.2;rw[<-Vb,<-a5]at Q;replace Q:=O Q
 go_wp2_with (first|(refine VP.loadA ai N N F a2 bc (G ?_))|(refine VG.load ai N N (aD x.g x.vm x.vt) WB bA ?_;rw[<-Vb];refine G ?_))
 refine Q.mono ?_;rintro e A3 ⟨vq,Ks,rfl,R,ax,K⟩;have Yz:=O R;have bC:=O ax;have bI:=O K;have bK:jb (eK RK.e RK.k A3 g (jl (jc ⟨g,o,jj⟩) m c) (j.length-k) ((j.drop k).flatMap aL)):=O (by
  have B:=f.que;obtain⟨cg,ay⟩:=B.cells;have a3:=B.lt;refine B.keep ((K.block g ?_).trans ((r.heap g (jw a3 p.size) (cQ f.own1 ay L) (cQ f.own2 ay L)).trans (p.block g a3)));have:=r.bel.size;have:=p.size;omega)
 have bM:jb (cH A3 vq 143 Ks.length (Ks.flatMap aL)):=O R.row.row;have Ym:jb (∀u∈Ks.flatMap aL,u.oneCell'=jh):=O (by
  intro u S;obtain⟨z,y,S⟩:=List.mem_flatMap.1 S;exact((R.all z y).kin (((YD _ Vn.out).list).below K)).ones u S)
 have Ze:jb (j.length-k+Ks.length<=1000000):=O (by
  have h1:=jV qn ax;have h2:(eS x.g (d.map (·.1))).length<=(bV (d.map (·.1)) (d.map (·.1)).length).length:=by
   unfold eS;rw[List.length_mergeSort];exact List.length_filterMap_le _ _
  have h3:=rZ (d.map (·.1)) (d.map (·.1)).length;rw[jO]at h1 h2 h3;have:=HN.out;have:=Ye.out
  omega)
 clear R ax K Q
 go_upto_region 7 with(first|(refine RK.wpList_appendQ N (.tmp 41) (.tmp 45) N N bK N bM Ym Ze ?_;intro v' A4 g' B K Q;refine G ?_))
 obtain⟨Zi,R,S⟩:=eK.tail (P:=jo) (t:=126) (sz:=143) (n:=j.length-(k+1)+Ks.length) (ys:=aL x) (xs:=(j.drop (k+1)).flatMap aL++Ks.flatMap aL) (by
  have h:=B;rw[Eo Yr,mz,qh,show j.length-k+Ks.length=j.length-(k+1)+Ks.length+1 by have:=au.out;omega]at h;exact h) a4 RK.ht RK.size
 have h:=O (f.step (y1:=je jf (x.ix:jp)) (y2:=ja GA) Yr a1 p N (by rw[Vb];rfl) r bI Yz.all bC K Q R);obtain⟨-,o',c',-,ax,-⟩:=B;obtain⟨-,bN,bO,-,ay,-⟩:=R;rw[ax]at S⊢;rw[ay]at S h;clear K Q ax ay
 go_wp2_with fail
 refine⟨⟨j++Ks,k+1,g',bN,bO,_,br,bu,bs,bv,N,N,N,O ?_,h⟩,?_⟩
 ·rw[jU];have:=au.out;omega
 have:=au.out;have:=Ye.out;show d.length-(k+1)<d.length-k;omega
theorem AS(q:jn CP)(v:jd)(g:Grp)(vm vt:jd)(w:ji)(b:cF w v q)(h:bH w g vm vt)(k:∀p∈q,cT (aP p.1))(l:bS w)(m:q.length<=1000)(o:g.mem.length<=900000)(r:g.tree.length<=600000)(s:∀p∈q,p.1.chg.length<=1000000):
 jr jo 11 #[ja (aD g vm vt).toArray,v] w λe w'=>e=jt (jv #[je jf ((et g (q.map (·.1))).elim 0 λc=>(c.ix:jg)),.bool (et g (q.map (·.1))).isSome])/\jm w w w':=by
 obtain⟨p1,k1,rfl⟩:=b.form;obtain⟨y,a⟩:=J ((aD g vm vt).toArray);have V8:=O a;have aa:jb (y.size=VG.n):=O (by rw[a,jD,eX h.llen];rfl);rw[<-a];obtain⟨M,j⟩:=J w.heap.size;obtain⟨x0,n⟩:=J (w.alloc (jk y 29));have f:jb (x0.heap[M]?=jc (jk y VG.t (0,0))):=O (by rw[n,j];exact jG _ _);have d:jb (jm w w x0):=O (by rw[n];exact ap _ _);have K:=O b;have HG:=O h;have P:=O k;have Q:=O l;have R:=O m;have WB:=O o;have Ww:=O r;have VT:=O s;have HM:=O j;have p:=O n;clear a j n b h k l m o r s
 go_enter func11,ntmps11
 go_upto_region 1 with fail
 rw[<-p,<-HM];clear p;refine j8 ?_;refine fN (λb=>b.heap[M]?=jc (jk y VG.t (0,0))) 10
  (.t 0 (.t 2 (.w 1 7 (.w 3 7 (.t 4 (.t 5 (.t 6 (.o 7 (.o 8 (.t 9 .done)))))) (.o 3 (.t 4 (.t 5 (.t 6 (.o 8 (.t 9 .done))))))) (.o 1 (.o 3 (.t 4 (.t 5 (.t 6 (.o 8 (.t 9 .done)))))))))) af af af af L (λ_ _ _ _ h=>h) f ?_
 have a:=bX x0;obtain⟨x1,r⟩:=J x0.drew;rw[<-r]at a⊢;replace d:=aj d a;replace f:=ae f a;clear r a;refine cr ?_
 (refine cL (v:=ja y) N ai (λb j=>cM VG.hu VG.hd (by rw[aa];exact VG.hi) N N j) ?_;refine G ?_)
 refine Bi ?_ ?_
 ·refine cY N (λx j=>?_)
  go_simp;refine(pX q _ x1 (K.below d) P (Q.below d) R).mono ?_;rintro e x2 ⟨v2,v3,rfl,S,a⟩;have F:=O (S.mono (E:=(·<x2.heap.size)) λb o=>o.2);replace d:=aj d a;replace f:=ae f a;refine j _ _ f.out λ_=>?_
  clear j S a;refine G ?_;refine Bi ?_ ?_
  ·refine cY N (λx j=>?_)
   go_simp;have n:=uj q _ v2 v3 g vm vt x2 F (HG.below d) P (Q.below d) R WB Ww VT;rw[<-V8]at n;refine n.mono ?_;rintro e H ⟨wk,rfl,z,s,a⟩;replace d:=aj d a;replace f:=ae f a;have t:=O (sM (wk:=wk) λk U=>(z k U).kin (K.below d));have V:=O s;have W:jb ((dm wk)[0]?=jc (je jf ((et g (q.map (·.1))).elim 0 λc=>(c.ix:jg)))):=O (by rw[<-s];cases wk<;>rfl);refine j _ _ f.out λ_=>?_
   clear j n z s a;refine G ?_;iterate 3 refine cr ?_
   refine cY N (λx j=>?_);rw[jA ai];refine gM VK.t N VK.Z VK.hal ?_;have B:=O d.size;obtain⟨p,l,r,o,m,a⟩:=cX H VK.Z VK.t;rw[<-r,<-o];replace d:=aj d a;replace f:=ae f a;have X:jb (w.heap.size<=l):=O (by rw[o];exact B);refine j _ _ f.out λ_=>?_
   clear j r o a B;refine G ?_;refine cY N (λx j=>?_);rw[jA ai];refine jW VK.t _ _ N l (dm wk) N N VK.t VK.Z m.out (by rw[t.1];exact VK.hi) (VK.hZ.trans t.1.symm) t.2 ?_;have C:jb ((p.setRow l (dm wk)).heap[l]?=jc (jk (dm wk) VK.t (0,0))):=O (jZ _ _ _ _ _ _ m.out);have D:jb (jm w w (p.setRow l (dm wk))):=O (iS d X _);have u:(p.setRow l (dm wk)).heap[M]?=jc (jk y VG.t (0,0)):=(jM _ _ _ _ (λe=>by have h:=m.out;rw[<-e,f]at h;injection h with h;injection h with _ h;exact js h L)).trans f;generalize p.setRow l (dm wk)=x9 at C D u⊢;refine j _ _ u λ_=>?_
   clear j u;refine G ?_;refine cr ?_;refine fa ?_;have c0:=ah (i:=0) C W
   go_wp2_with fail
   go_ret2;exact⟨yW (jV (λb=>qo #[_,.bool b]) (by rw[<-V];cases wk<;>rfl)),D⟩
  refine cY N (λx j=>?_);rw[jA ai];refine gM VK.t N VK.Z VK.hal ?_;have B:=O d.size;obtain⟨H,l,r,o,m,a⟩:=cX x2 VK.Z VK.t;rw[<-r,<-o];replace d:=aj d a;replace f:=ae f a;replace F:=O (F.below a);have X:jb (w.heap.size<=l):=O (by rw[o];exact B);refine j _ _ f.out λ_=>?_
  clear j r o a B;refine G ?_;refine cY N (λx j=>?_);go_simp;have n:=uj q _ v2 v3 g vm vt H F (HG.below d) P (Q.below d) R WB Ww VT;rw[<-V8]at n;refine n.mono ?_;rintro e p ⟨wk,rfl,z,s,a⟩;replace d:=aj d a;replace f:=ae f a;replace m:=ae m a;have t:=O (sM (wk:=wk) λk U=>(z k U).kin (K.below d));have V:=O s;have W:jb ((dm wk)[0]?=jc (je jf ((et g (q.map (·.1))).elim 0 λc=>(c.ix:jg)))):=O (by rw[<-s];cases wk<;>rfl);refine j _ _ f.out λ_=>?_
  clear j n z s a;refine G ?_;iterate 3 refine cr ?_
  refine cY N (λx j=>?_);rw[jA ai];refine jW VK.t _ _ N l (dm wk) N N VK.t VK.Z m.out (by rw[t.1];exact VK.hi) (VK.hZ.trans t.1.symm) t.2 ?_;have C:jb ((p.setRow l (dm wk)).heap[l]?=jc (jk (dm wk) VK.t (0,0))):=O (jZ _ _ _ _ _ _ m.out);have D:jb (jm w w (p.setRow l (dm wk))):=O (iS d X _);have u:(p.setRow l (dm wk)).heap[M]?=jc (jk y VG.t (0,0)):=(jM _ _ _ _ (λe=>by have h:=m.out;rw[<-e,f]at h;injection h with h;injection h with _ h;exact js h L)).trans f;generalize p.setRow l (dm wk)=x9 at C D u⊢;refine j _ _ u λ_=>?_
  clear j u;refine G ?_;refine cr ?_;refine fa ?_;have c0:=ah (i:=0) C W
  go_wp2_with fail
  go_ret2;exact⟨yW (jV (λb=>qo #[_,.bool b]) (by rw[<-V];cases wk<;>rfl)),D⟩
 refine cY N (λx j=>?_);rw[jA ai];refine gM VK.t N VK.Z VK.hal ?_;have B:=O d.size;obtain⟨x2,l,r,o,m,a⟩:=cX x1 VK.Z VK.t;rw[<-r,<-o];replace d:=aj d a;replace f:=ae f a;have X:jb (w.heap.size<=l):=O (by rw[o];exact B);refine j _ _ f.out λ_=>?_
 clear j r o a B;refine G ?_;refine cY N (λx j=>?_);go_simp;refine(pX q _ x2 (K.below d) P (Q.below d) R).mono ?_;rintro e H ⟨v2,v3,rfl,S,a⟩;have F:=O (S.mono (E:=(·<H.heap.size)) λb o=>o.2);replace d:=aj d a;replace f:=ae f a;replace m:=ae m a;refine j _ _ f.out λ_=>?_
 clear j S a;refine G ?_;refine cY N (λx j=>?_);go_simp;have n:=uj q _ v2 v3 g vm vt H F (HG.below d) P (Q.below d) R WB Ww VT;rw[<-V8]at n;refine n.mono ?_;rintro e p ⟨wk,rfl,z,s,a⟩;replace d:=aj d a;replace f:=ae f a;replace m:=ae m a;have t:=O (sM (wk:=wk) λk U=>(z k U).kin (K.below d));have V:=O s;have W:jb ((dm wk)[0]?=jc (je jf ((et g (q.map (·.1))).elim 0 λc=>(c.ix:jg)))):=O (by rw[<-s];cases wk<;>rfl);refine j _ _ f.out λ_=>?_
 clear j n z s a;refine G ?_;iterate 3 refine cr ?_
 refine cY N (λx j=>?_);rw[jA ai];refine jW VK.t _ _ N l (dm wk) N N VK.t VK.Z m.out (by rw[t.1];exact VK.hi) (VK.hZ.trans t.1.symm) t.2 ?_;have C:jb ((p.setRow l (dm wk)).heap[l]?=jc (jk (dm wk) VK.t (0,0))):=O (jZ _ _ _ _ _ _ m.out);have D:jb (jm w w (p.setRow l (dm wk))):=O (iS d X _);have u:(p.setRow l (dm wk)).heap[M]?=jc (jk y VG.t (0,0)):=(jM _ _ _ _ (λe=>by have h:=m.out;rw[<-e,f]at h;injection h with h;injection h with _ h;exact js h L)).trans f;generalize p.setRow l (dm wk)=x9 at C D u⊢;refine j _ _ u λ_=>?_
 clear j u;refine G ?_;refine cr ?_;refine fa ?_;have c0:=ah (i:=0) C W
 go_wp2_with fail
 go_ret2;exact⟨yW (jV (λb=>qo #[_,.bool b]) (by rw[<-V];cases wk<;>rfl)),D⟩
section
section
variable {q1 q2 q3 q4:CQ}
theorem Df{P:Cmt->Prop}(b:P cS3)(c:P bU)(d:P cN)(e:P bF):∀p∈[(cS3,q3),(bU,q2),(cN,q4),(bF,q1)],P p.1:=by
 intro p a;simp only[jF,jP,or_false]at a
 rcases a with rfl|rfl|rfl|rfl
 ·exact b
 ·exact c
 ·exact d
 exact e
theorem rW:[(cS3,q3),(bU,q2),(cN,q4),(bF,q1)].map (·.1)=[cS3,bU,cN,bF]:=N
theorem Az:∀p∈[(cS3,q3),(bU,q2),(cN,q4),(bF,q1)],p.1.chg.length<=1000000:=
 Df (P:=λc=>c.chg.length<=1000000) (by rw[iO.1];decide) (by rw[nS.1];simp) (by rw[iO.2.2.1];decide) (by rw[mr.1];simp)
theorem wN:∀p∈[(cS3,q3),(bU,q2),(cN,q4),(bF,q1)],cT (aP p.1):=
 Df (P:=λc=>cT (aP c)) lD.2.2.1 lD.2.1 lD.2.2.2 lD.1
theorem NW(v:jd)(W:ji)(l:cF W v [(cS3,q3),(bU,q2),(cN,q4),(bF,q1)])(m:bS W):
 jr jo 16 #[ja (dz 3 (aG bF)).toArray,v] W λe w'=>∃a b f g,e=jt (jv #[jl a 3 b,jl f 3 g])/\
  aH (·<w'.heap.size) w' (jl a 3 b) 1 3 [je jf 3,je jf 1,je jf 2]/\jm W W w':=by
 refine(Dl _ v 3 (aG bF) (dS _) W l wN m ao Az).mono ?_;rintro e w' ⟨u1,u2,Ks,rfl,i,d,j,-,n⟩;rw[rW,oN.chain]at i;have o:Ks.length=3:=by have h:=jV qn i;simpa using h
 have p:(Ks.map λk=>jy .i64 k.ix)=[je jf 3,je jf 1,je jf 2]:=by
  have h:=jV (List.map λc:aR=>jy .i64 (c.ix:jg)) i;rw[List.map_map]at h;exact h.trans (by unfold bQ;rfl)
 rw[o]at d j;rw[p]at d;obtain⟨a,b,rfl⟩:=d.form;obtain⟨f,g,rfl⟩:=j.form;exact⟨a,b,f,g,N,d.mono λk c=>c.2,n⟩
theorem LW(g:Grp)(c:Cmt)(i:jp):(bQ g c i).ix=i:=by unfold bQ;rfl
theorem ME{a:jg}{b:LBy}{l:jn Cmt}{c:aR}(h:fC a b l=jc c):pU a b l=sO l c:=by unfold pU;rw[h]
theorem Nw:pU 3 (aG bF) [cS3,bU,cN,bF]=[⟨3,bF,aG bF,0,aB (aM 3) bF⟩,bQ (aB (aM 3) bF) bU 1,bQ (aB (aB (aM 3) bF) bU) cN 2,bQ (aB (aB (aM 3) bF) bU) cS3 0]:=by
 rw[ME oN.first];exact oN.all
theorem QV(v:jd)(W:ji)(h:cF W v [(cS3,q3),(bU,q2),(cN,q4),(bF,q1)])(i:bS W):
 jr jo 17 #[ja (dz 3 (aG bF)).toArray,v] W λe w'=>∃a b u2,e=jt (jv #[jl a 4 b,u2])/\
  aH (·<w'.heap.size) w' (jl a 4 b) 1 4 [je jf 3,je jf 1,je jf 2,je jf 0]/\jm W W w':=by
 refine(Ko _ v 3 (aG bF) (dS _) W h wN i ao).mono ?_;rintro e w' ⟨u1,u2,Ks,rfl,d,g,-,-,j⟩;rw[rW,Nw]at d;have l:Ks.length=4:=(jO (f:=CK.cand) ..).symm.trans ((jV qn d).trans N);have m:ixs Ks=[je jf 3,je jf 1,je jf 2,je jf 0]:=by
  have e:ixs Ks=(Ks.map CK.cand).map λc=>jy .i64 (c.ix:jp):=by rw[List.map_map];rfl
  rw[e,d];simp only[jR,jH,LW]
  rfl
 rw[l,m]at g;obtain⟨a,b,rfl⟩:=g.form;exact⟨a,b,u2,N,g.mono λk c=>c.2,j⟩
theorem Lr(v:jd)(W:ji)(d:cF W v [(cS3,q3),(bU,q2),(cN,q4),(bF,q1)])(f:bS W):
 jr jo 18 #[ja (dz 3 (aG bF)).toArray,v] W λe w'=>∃vm vt,e=jt (jv #[ja (aD (aB cW cN) vm vt).toArray,.bool jh])/\bH w' (aB cW cN) vm vt/\jm W W w':=by
 refine(BW _ v 3 (aG bF) (dS _) W d wN f ao Az).mono ?_;rintro e w' ⟨k,rfl,a,g,i⟩;rw[rW,oN.chain]at a
 rcases k with _|k
 ·cases a
 have b:k.g=aB cW cN:=by
  have h:=jV (Option.map aR.leads) a;exact Option.some.inj (h.trans (by unfold bQ;rfl))
 have c:=(g k N).grp.grp;rw[b]at c;refine⟨k.vm,k.vt,?_,c,i⟩;rw[<-b];rfl
theorem DF(v:jd)(W:ji)(d:cF W v [(cS3,q3),(bU,q2),(cN,q4),(bF,q1)])(f:bS W)(a:ju jd)(b:jg)(g:∀t c,((aG bU).map v8)[t]?=jc c->a[1+t]?=jc c)(i:a[33]?=jc (je jf 0))(j:a[34]?=jc (je jf b)):
 jr jo 21 #[ja (dz 3 (aG bF)).toArray,v,ja a] W λe w'=>e=jt (.bool (decide (b<=5)))/\jm W W w':=by
 have h:=DG _ v 3 (aG bF) (dS _) a (aG bU) 0 b (dS _) g i j W d wN f ao Az (by
  rw[rW,oN.chain];intro k c;have l:=nN (gY lT);have m:=nN (gY li);have n:=nN (gY mU);simp only[jF,jP,or_false]at c
  rcases c with rfl|rfl|rfl
  ·exact jK l.1 L
  ·exact jK m.1 L
  exact jK n.1 L)
 rw[rW,ML oN]at h;exact h
end
theorem uz(W:ji):cF W (jl jj 0 0) []:=⟨⟨N,jj,0,N,jz _,λ_=>rfl,λh=>js h (o1 _)⟩,λp a=>by cases a⟩
theorem ve(a:jg)(b:LBy):ft a b []=[]:=by
 rw[zk];rfl
theorem PQ(g:Grp):et g []=jj:=by
 unfold et eS eH;simp[bV]
theorem Jg(a:LBy)(h:a.length=32)(W:ji)(i:bS W):
 jr jo 16 #[ja (dz 3 a).toArray,jl jj 0 0] W λe w'=>∃b c d f,e=jt (jv #[jl b 0 c,jl d 0 f])/\jm W W w':=by
 refine(Dl [] _ 3 a h W (uz W) (λp g=>by cases g) i ao (λp g=>by cases g)).mono ?_;rintro e w' ⟨u1,u2,Ks,rfl,g,j,k,-,l⟩;rw[jH,ve]at g;obtain rfl:Ks=[]:=ak g;obtain⟨b,c,rfl⟩:=j.form;obtain⟨d,f,rfl⟩:=k.form;exact⟨b,c,d,f,N,l⟩
theorem OF(a:LBy)(c:a.length=32)(W:ji)(d:bS W):
 jr jo 18 #[ja (dz 3 a).toArray,jl jj 0 0] W λe w'=>e=jt (jv #[ja (kS jj),.bool jq])/\jm W W w':=by
 refine(BW [] _ 3 a c W (uz W) (λp b=>by cases b) d ao (λp b=>by cases b)).mono ?_;rintro e w' ⟨k,rfl,b,g,f⟩;rw[jH,ve]at b;obtain rfl:k=jj:=ak b;exact⟨N,f⟩
theorem Mp(W:ji)(b:bS W):
 jr jo 11 #[ja (aD kB vN vN).toArray,jl jj 0 0] W λe w'=>e=jt (jv #[je jf 0,.bool jq])/\jm W W w':=by
 refine(AS [] _ kB vN vN W (uz W) ⟨⟨N,jj,0,N,jz _,λ_=>rfl,λh=>js h (o1 _)⟩,nJ W,by decide⟩ (λp a=>by cases a) b ao L L (λp a=>by cases a)).mono ?_;rintro e w' ⟨rfl,a⟩;rw[jH,PQ];exact⟨N,a⟩
theorem Kb(b:LBy)(i:b.length=32)(W:ji)(j:bS W)(a:ju jd)(c:LBy)(l:c.length=32)(f g:jg)(m:∀t d,(c.map v8)[t]?=jc d->a[1+t]?=jc d)(n:a[33]?=jc (je jf f))(o:a[34]?=jc (je jf g)):
 jr jo 21 #[ja (dz 3 b).toArray,jl jj 0 0,ja a] W λe w'=>e=jt (.bool jq)/\jm W W w':=by
 have h:=DG [] (jl jj 0 0) 3 b i a c f g l m n o W (uz W) (λp d=>by cases d) j ao (λp d=>by cases d) (by rw[jH,ve];intro k d;cases d);rw[jH,ve]at h;exact h
end
section
variable{b:CQ}{a:Cmt}{e:j9}
section
variable {P:Program} {ops:ju jL} {Q:Exit->Act->ji->Prop}
theorem eC.four(R:eC P){o:jL}{l:jn jL}{a:Act}{w:ji}(m:o.guard=jj)(f g j k:j7)(n:o.op=.buildSlice R.t 4 #[(0,f),(1,g),(2,j),(3,k)])(A0 b c d:ju jd)(p:a.eval f=ja A0)(q:a.eval g=ja b)(r:a.eval j=ja c)(s:a.eval k=ja d)
 (t:A0.size=R.k) (s1:b.size=R.k) (s2:c.size=R.k) (s3:d.size=R.k) (h:wpList P ops Q l (a.put o.dst (jl (jc ⟨w,0,jj⟩) 4 4)) (w.alloc (jk (A0.toList++(b.toList++(c.toList++d.toList))).toArray R.e))):wpList P ops Q (o::l) a w:=by
 have u:=R.hk;have y:=R.h0;refine wpList_buildSlice m R.t R.e 4 _ n (A0.toList++(b.toList++(c.toList++d.toList))).toArray R.i R.z R.ht R.hi R.hz (by rw[R.hs];omega) (by rw[R.hs];omega) ?_ h;have e:((#[(0,f),(1,g),(2,j),(3,k)]:ju (jp×j7)).map fun(i,x)=>(i,a.eval x)).toList=(([j4 A0,ja b,ja c,ja d]:jn jd).zipIdx 0).map λx=>(x.2,x.1):=by simp[p,q,r,s]
 rw[e,R.hs];refine(Great.fill_whole R.h0 [j4 A0,ja b,ja c,ja d] _ (λv i=>?_) ao).trans (by simp[ms]);simp only[jF,jP,or_false]at i
 rcases i with rfl|rfl|rfl|rfl
 ·exact t
 ·exact s1
 ·exact s2
 exact s3
end
noncomputable def RCm:eC jo:=.of 41 37 73 200 (ja (aF mR nK).toArray) underlying41 af (by rw[ms,jD];exact dl _ _ L L) L L L
theorem OY{a:Act}{o:jL}{x:j7}{b:ju jd}(c:b.size=32)(d:o.op=.build 59 #[(0,.const (je jf 3)),(1,x)])(e:a.eval x=ja b)(W:ji):
 (j6 a.eval o).run jo W=.ok (.value (ja (#[je jf 3]++b))) W:=by
 have f:(dz 0 cI).toArray=([]++([jy .i64 0]++(cI.map v8++[]))).toArray:=by kernel_rfl
 have g:=uE (P:=jo) (t:=59) (zero:=ja (dz 0 cI).toArray) (places:=#[(0,1),(1,32)]) (λw=>by kernel_rfl) underlying59 (λw=>by kernel_rfl)
  (parts:=#[(0,je jf 3),(1,ja b)]) (X:=(#[je jf 3]++b)) (by
   show Instr.fill _ (dz 0 cI).toArray [(0,jy .i64 3),(1,j4 b)]=_;rw[f,mF (A0:=[]) (off:=0) (size:=1) N N N N];show Instr.fill _ ([jy .i64 3]++_).toArray _ =_;rw[mF (A0:=[jy .i64 3]) (off:=1) (size:=32) N N N (v:=ja b) c,Instr.fill];simp[ms]) W
 simp only[j6,d,qi,jR,jH,e];simp only[Sem.run_bind,show a.eval (.const (je jf 3))=jy .i64 3 from N,g,Result.andThen_ok,Sem.run_pure]
def itT:jn jd:=[je jf 0,je jf 0,je jf 0,je jf 0]++(cI.map v8++[jl jj 0 0,je jf 0,je jf 0])
def itC(a:jn jd)(b:jg):jn jd:=[je jf 0]++(a++([je jf 0]++([je jf b]++itT)))
noncomputable def VIt:VarT jo:=⟨70,74,(itC (cI.map v8) 0).toArray,_,underlying70,N,by kernel_rfl,rfl,λ_=>by kernel_rfl⟩
theorem MK{a:Act}{o:jL}{x:j7}{b:ju jd}(c:b.size=32)(d:o.op=.build 70 #[(1,x),(3,.const (je jf 5))])(f:a.eval x=ja b)(W:ji):
 (j6 a.eval o).run jo W=.ok (.value (ja (itC b.toList 5).toArray)) W:=by
 have g:=uE (P:=jo) (t:=70) (zero:=ja (itC (cI.map v8) 0).toArray) (places:=#[(0,1),(1,32),(33,1),(34,1),(35,1),(36,1),(37,34),(71,1),(72,2)]) (λw=>by kernel_rfl) underlying70 (λw=>by kernel_rfl)
  (parts:=#[(1,ja b),(3,je jf 5)]) (X:=(itC b.toList 5).toArray) (by
   show Instr.fill _ (itC (cI.map v8) 0).toArray [(1,j4 b),(3,jy .i64 5)]=_;have h:b.toList.length=32:=by rw[j0];exact c
   unfold itC;rw[mF (A0:=[jy .i64 0]) (off:=1) (size:=32) N N N (v:=ja b) c];show Instr.fill _ ([jy .i64 0]++(b.toList++([jy .i64 0]++([jy .i64 0]++itT)))).toArray _ =_;have e:∀l:jn jd,[jy .i64 0]++(b.toList++([jy .i64 0]++l))=([jy .i64 0]++b.toList++[jy .i64 0])++l:=λl=>by simp
   rw[e,mF (A0:=[jy .i64 0]++b.toList++[jy .i64 0]) (off:=34) (size:=1) N (by simp[h]) N (v:=je jf 5) N,Instr.fill];show jc (([jy .i64 0]++b.toList++[jy .i64 0])++([jy .i64 5]++itT)).toArray=_;rw[<-e]) W
 simp only[j6,d,qi,jR,jH,f];simp only[Sem.run_bind,show a.eval (.const (je jf 5))=jy .i64 5 from N,g,Result.andThen_ok,Sem.run_pure]
structure ItP(a:ju jd)(c:LBy)(d:jg):Prop where
 sz:a.size=VIt.n
 one:a.all (·.oneCell')=jh
 id:∀t b,(c.map v8)[t]?=jc b->a[1+t]?=jc b
 dev:a[33]?=jc (je jf 0)
 ctr:a[34]?=jc (je jf d)
theorem itP(b:LBy)(c:jg)(h:b.length=32):ItP (itC (b.map v8).toArray.toList c).toArray b c:=by
 have d:(b.map v8).length=32:=by rw[jO];exact h
 refine⟨?_,?_,λt e a=>?_,?_,?_⟩
 ·show _ =74
  unfold itC itT;simp[h,cI]
 ·rw[j5]
  intro e a;unfold itC itT at a;simp only[qs,j1,jF,jP,or_false,qa]at a
  rcases a with rfl|a|rfl|rfl|(rfl|rfl|rfl|rfl)|a|rfl|rfl|rfl
  all_goals first|rfl|exact iu _ e a
 ·have f:t<(b.map v8).length:=(jS.1 a).1
  unfold itC;rw[qa,jY,jX ao,qb,show 1+t-1=t by omega,n0 f];exact a
 ·unfold itC
  rw[qa,jY,jX ao,qb,jX Y,d]
  rfl
 unfold itC;rw[qa,jY,jX ao,qb,jX Y,d]
 rfl
theorem Om(c:jn jd)(a b:jg)(h:c.length=32):(itC c a).toArray.setIfInBounds 34 (je jf b)=(itC c b).toArray:=by
 rw[List.setIfInBounds_toArray];refine jV List.toArray ?_;unfold itC;rw[qC _ _ ao,qb,qC _ _ Y,h]
 rfl
theorem CG(W:ji):bH W kB vN vN:=⟨⟨N,jj,0,N,jz _,λ_=>rfl,λh=>js h (o1 _)⟩,nJ W,by decide⟩
structure S5(w:ji)(BL:jn (jp×ju jd×jC))(CL:jn CP)(GL:jn (Grp×jd×jd))(v:jd)(LS:jn CP)(g:Grp)(m t u1 u2:jd)(x:ji):Prop where
 s:SSt w BL CL GL x
 ci:cF x v LS
 gi:bH x g m t
 at_:aH (·<x.heap.size) x u1 1 3 [je jf 3,je jf 1,je jf 2]
 al:aH (·<x.heap.size) x u2 1 4 [je jf 3,je jf 1,je jf 2,je jf 0]
section
variable {w x x':ji} {BL:jn (jp×ju jd×jC)} {CL LS:jn CP} {GL:jn (Grp×jd×jd)} {v m t u1 u2:jd} {g:Grp}
theorem S5.below(h:S5 w BL CL GL v LS g m t u1 u2 x)(a:jm x x x'):S5 w BL CL GL v LS g m t u1 u2 x':=
 ⟨h.s.below a,h.ci.below a,h.gi.below a,(h.at_.keep λk b=>a.block k b).mono λk b=>jw b a.size,(h.al.keep λk b=>a.block k b).mono λk b=>jw b a.size⟩
theorem S5.block(h:S5 w BL CL GL v LS g m t u1 u2 x){b:jp}{a:ju jd}{c:jC}(d:x.heap[b]?=jc (jk a c (0,0))):S5 w ((b,a,c)::BL) CL GL v LS g m t u1 u2 x:=⟨h.s.block d,h.ci,h.gi,h.at_,h.al⟩
end
structure gZ(g:Grp)(c:Cmt)(W w':ji)(e:j9)(q:CQ)(vm vt:jd)(a b:ju jd):Prop where
 ret:e=jt (jv #[ja a,ja b,.bool jh])
 ac:a=(aF c q).toArray
 ag:b=(aD (aB g c) vm vt).toArray
 com:aT (λk=>W.heap.size<=k/\k<w'.heap.size) w' c q
 grp:dN (λk=>W.heap.size<=k/\k<w'.heap.size) w' (aB g c) vm vt
 bel:jm W W w'
theorem gZ.csz{g:Grp}{W w':ji}{vm vt:jd}{c q:ju jd}(h:gZ g a W w' e b vm vt c q):c.size=VC.n:=by
 rw[h.ac,jD];exact dl _ _ h.com.plen h.com.clen
theorem gZ.cone{g:Grp}{W w':ji}{vm vt:jd}{c q:ju jd}(h:gZ g a W w' e b vm vt c q):c.all (·.oneCell')=jh:=by
 rw[h.ac,j5];exact λd f=>nD h.com d (ak f)
theorem gZ.gsz{g:Grp}{W w':ji}{vm vt:jd}{q c:ju jd}(h:gZ g a W w' e b vm vt q c):c.size=VG.n:=by
 rw[h.ag,jD];exact eX h.grp.grp.llen
theorem gZ.gone{g:Grp}{W w':ji}{vm vt:jd}{i f:ju jd}(h:gZ g a W w' e b vm vt i f):f.all (·.oneCell')=jh:=by
 obtain⟨p,l,c,n',q,rfl,rfl⟩:∃p k c n' q,vm=jl p (aB g a).mem.length k/\vt=jl c n' q:=by
  obtain⟨p,a,d,-⟩:=h.grp.grp.mem.form;obtain⟨c,n',q,j⟩:=gu h.grp.grp.tree;exact⟨p,a,c,n',q,d,j⟩
 rw[h.ag,j5];intro j d;simp only[aD,qs,jF,j1,jP,or_false]at d
 rcases d with rfl|rfl|d|rfl|rfl
 ·rfl
 ·rfl
 ·exact iu _ j d
 ·rfl
 rfl
theorem vF{g:Grp}{vm vt:jd}{d:jp}(h:d<512)(b:BitVec 8){x:ar}{c:Cmt}(i:ie g (d:jg) ((d+2:jp):jg) [x]=0)(j:c=mkC g (d:jg) (d+2) [x] (kz b) (kz 1) (kz b))(k:gz g c)(l:cT (aP c))
 {a:ju jd} (n:a=(aD g vm vt).toArray) {f:jd} {W:ji} (o:bH W g vm vt) (p:gJ W) (r:aH (·<W.heap.size) W f 5 1 x.cells):
 jr jo 13 #[ja a,je jf (d:jg),v8 b,f] W λe w'=>∃q s u v w,gZ g c W w' e q s u v w:=by
 rw[n];refine(O7 h b o r p i c j k l).mono ?_;rintro e w' ⟨q,m,t,y,z,B,C⟩;exact⟨q,m,t,_,_,y,N,N,z,B,C⟩
theorem BU(V U:VarT jo)(x:ji)(a:ju jd):(((x.alloc (jk V.Z V.t)).alloc (jk U.Z U.t)).setRow x.heap.size a).heap[x.heap.size+1]?=jc (jk U.Z U.t (0,0)):=by
 have h:=jG (x.alloc (jk V.Z V.t)) (jk U.Z U.t);rw[j3]at h;exact(jM _ _ _ _ Y).trans h
theorem JF(V U:VarT jo)(a B:ju jd)(x:ji):∃x' b,x'=(((x.alloc (jk V.Z V.t)).alloc (jk U.Z U.t)).setRow x.heap.size a).setRow (x.heap.size+1) B/\b=x.heap.size/\
 x'.heap[b]?=jc (jk a V.t (0,0))/\x'.heap[b+1]?=jc (jk B U.t (0,0))/\jm x x x':=by
 have c:((x.alloc (jk V.Z V.t)).alloc (jk U.Z U.t)).heap[x.heap.size]?=jc (jk V.Z V.t (0,0)):=av (jG x _) (ap _ _);have d:=(ap x (jk V.Z V.t)).trans ((ap (x.alloc (jk V.Z V.t)) (jk U.Z U.t)).mono (ap x (jk V.Z V.t)).size);refine⟨_,_,N,N,(jM _ _ _ _ Y).trans (jZ _ _ _ _ _ _ c),jZ _ _ _ _ _ _ (BU V U x a),qc (qc d (jz _) a) (Nat.le_succ _) B⟩
structure fx(d W:ji)(e f:jd)(g:Grp)(c:Cmt)(q:CQ)(m t:jd)(a b:ju jd):Prop where
 ac:a=(aF c q).toArray
 ag:b=(aD (aB g c) m t).toArray
 csz:a.size=VC.n
 cone:a.all (·.oneCell')=jh
 gsz:b.size=VG.n
 gone:b.all (·.oneCell')=jh
 ex:∃D:jp->Prop,aT D W c q/\dN D W (aB g c) m t/\∀k,D k->d.heap.size<=k/\k<W.heap.size/\e≠ptr k/\f≠ptr k
theorem fx.keep{e W f:ji}{i j:jd}{g:Grp}{c:Cmt}{q:CQ}{m t:jd}{l n:ju jd}(h:fx e W i j g c q m t l n)(d:jm W W f):fx e f i j g c q m t l n:=by
 obtain⟨o,p,r,s,u,v,D,w,x,b⟩:=h;exact⟨o,p,r,s,u,v,D,w.keep λk a=>d.block k (b k a).2.1,x.keep λk a=>d.block k (b k a).2.1,λk a=>⟨(b k a).1,jw (b k a).2.1 d.size,(b k a).2.2⟩⟩
theorem fx.c{d W:ji}{l f:jd}{g:Grp}{c:Cmt}{q:CQ}{m t:jd}{i j:ju jd}(h:fx d W l f g c q m t i j){n:jp}(y:W.heap.size<=n):fx d W (ptr n) f g c q m t i j:=by
 obtain⟨o,p,r,s,u,v,D,w,x,a⟩:=h;exact⟨o,p,r,s,u,v,D,w,x,λk b=>⟨(a k b).1,(a k b).2.1,λe=>(by injection e with e;injection e with e;injection e with e;have:=(a k b).2.1;omega),(a k b).2.2.2⟩⟩
theorem fx.g{d W:ji}{f l:jd}{g:Grp}{c:Cmt}{q:CQ}{m t:jd}{i j:ju jd}(h:fx d W f l g c q m t i j){n:jp}(y:W.heap.size<=n):fx d W f (ptr n) g c q m t i j:=by
 obtain⟨o,p,r,s,u,v,D,w,x,a⟩:=h;exact⟨o,p,r,s,u,v,D,w,x,λk b=>⟨(a k b).1,(a k b).2.1,(a k b).2.2.1,λe=>(by injection e with e;injection e with e;injection e with e;have:=(a k b).2.1;omega)⟩⟩
theorem fx.of{b W d:ji}{f i:jd}{g:Grp}{c:Cmt}{q:CQ}{m t:jd}{j l:ju jd}(h:gZ g c W d e q m t j l)(n:b.heap.size<=W.heap.size)(o:∀k,W.heap.size<=k->f≠ptr k)(p:∀k,W.heap.size<=k->i≠ptr k):fx b d f i g c q m t j l:=
 ⟨h.ac,h.ag,h.csz,h.cone,h.gsz,h.gone,_,h.com,h.grp,λk a=>⟨jK n a.1,a.2,o k a.1,p k a.1⟩⟩
theorem fx.end{d W:ji}{C K:jp}{g:Grp}{m t:jd}{c q:ju jd}(h:fx d W (ptr C) (ptr K) g a b m t c q)(r:jm d d W)(l:W.heap[C]?=jc (jk VC.Z VC.t (0,0)))(s:d.heap.size<=C)
 (i:W.heap[K]?=jc (jk VG.Z VG.t (0,0))) (u:d.heap.size<=K):(W.setRow C c).heap[K]?=jc (jk VG.Z VG.t (0,0))/\∃y,y=(W.setRow C c).setRow K q/\y.heap[C]?=jc (jk c VC.t (0,0))/\y.heap[K]?=jc (jk q VG.t (0,0))/\aT (·<y.heap.size) y a b/\bH y (aB g a) m t/\jm d d y:=by
 have n:C≠K:=by
  rintro rfl;rw[l]at i;simp[VC,VG]at i
 obtain⟨z,B,-,-,-,-,D,v,w,j⟩:=h;have o:=(jM W C K c (Ne.symm n)).trans i;have x:((W.setRow C c).setRow K q).heap.size=W.heap.size:=by rw[setRow_size,setRow_size]
 have p:∀k,D k->((W.setRow C c).setRow K q).heap[k]?=W.heap[k]?:=λk f=>(jM _ K k q (λe=>(j k f).2.2.2 (by rw[e]))).trans (jM W C k c (λe=>(j k f).2.2.1 (by rw[e])))
 exact⟨o,_,N,(jM _ K C q n).trans (jZ W C _ c _ _ l),jZ _ K _ q _ _ o,(v.keep p).mono λk f=>by rw[x];exact(j k f).2.1,(w.keep p).grp,qc (qc r s c) u q⟩
def T9(b:ji)(f s1 s2 s3 s29 s30 s31 s32 s33 s34 s35 s36:jd)(h E:ju jd)(g:Grp)(c:Cmt)(j:jp)(i k:Bool)(a:Act)(W:ji):Prop:=
 ∃T39 T40 T41 T37 T42 T43 T44 T4 T5,a={tmps:=#[f,s1,s2,s3,T4,T5,I,I,I,I,I,I,I,I,I,I,I,I,I,I,I,I,I,I,I,I,I,I,I,s29,s30,s31,s32,s33,s34,s35,s36,T37,ja h,T39,T40,T41,T42,T43,T44,I,I,I,I,I,I,I,I,I,I,I,I,I,I,I,I,I,I,I,I,I,I,I,I,I,I,I,I,I,I,I,I,I,I,I,I,I,I,I,I,I,I,I,I,I,I,I,I,I,I,I,I,I,I,I,I,I,I,I,I,I,I,I,I,I,I,I,I,I,I,I,I,I,I,I,I,I,I,I,I,I,I,I,I,I,I,I,I,I,I,I,I,I,I,I,I,I,I,I,I,I,I,I,I,I,I,I,I,I,I,I,I,I,I,I,I,I,I,I,I,I,I,I,I,I,I,I,I,I,I,I,I,I,I,I,I,I,I,I,I,I,I,I,I,I,I,I,I,I,I,I,I,I,I,I,I,I,I,I,I,I,I,I,I,I,I],defers:=[]}/\jm b b W/\(1<=j->T39=ja E)/\(2<=j->aH (·<W.heap.size) W T40 5 1 E.toList)/\
  (3<=j->∃q m t d e,T41=jv #[ja d,ja e,.bool jh]/\(4<=j->T37=T41)/\(5<=j->T42=ja d)/\(6<=j->T43=ja e)/\(7<=j->T44=.bool jh)/\fx b W T4 T5 g c q m t d e)/\
  iB VC.t VC.Z b i T4 W/\iB VG.t VG.Z b k T5 W
def OA(b:ji)(f s1 s2 s3 s4 s5 s6 s29 s30 s31 s32 s33 s34 s35 s36 s37 s38 s39 s40 s41 s42 s43 s44:jd)(h E:ju jd)(g:Grp)(c:Cmt)(j:jp)(i k:Bool)(a:Act)(W:ji):Prop:=
 ∃T47 T48 T49 T45 T50 T51 T52 T7 T8,a={tmps:=#[f,s1,s2,s3,s4,s5,s6,T7,T8,I,I,I,I,I,I,I,I,I,I,I,I,I,I,I,I,I,I,I,I,s29,s30,s31,s32,s33,s34,s35,s36,s37,s38,s39,s40,s41,s42,s43,s44,T45,ja h,T47,T48,T49,T50,T51,T52,I,I,I,I,I,I,I,I,I,I,I,I,I,I,I,I,I,I,I,I,I,I,I,I,I,I,I,I,I,I,I,I,I,I,I,I,I,I,I,I,I,I,I,I,I,I,I,I,I,I,I,I,I,I,I,I,I,I,I,I,I,I,I,I,I,I,I,I,I,I,I,I,I,I,I,I,I,I,I,I,I,I,I,I,I,I,I,I,I,I,I,I,I,I,I,I,I,I,I,I,I,I,I,I,I,I,I,I,I,I,I,I,I,I,I,I,I,I,I,I,I,I,I,I,I,I,I,I,I,I,I,I,I,I,I,I,I,I,I,I,I,I,I,I,I,I,I,I,I,I,I,I,I,I,I,I,I,I],defers:=[]}/\jm b b W/\(1<=j->T47=ja E)/\(2<=j->aH (·<W.heap.size) W T48 5 1 E.toList)/\
  (3<=j->∃q m t d e,T49=jv #[ja d,ja e,.bool jh]/\(4<=j->T45=T49)/\(5<=j->T50=ja d)/\(6<=j->T51=ja e)/\(7<=j->T52=.bool jh)/\fx b W T7 T8 g c q m t d e)/\
  iB VC.t VC.Z b i T7 W/\iB VG.t VG.Z b k T8 W
def Js(b:ji)(f s1 s2 s3 s4 s5 s6 s7 s8 s9 s29 s30 s31 s32 s33 s34 s35 s36 s37 s38 s39 s40 s41 s42 s43 s44 s45 s46 s47 s48 s49 s50 s51 s52:jd)(h E:ju jd)(g:Grp)(c:Cmt)(j:jp)(i k:Bool)(a:Act)(W:ji):Prop:=
 ∃T55 T56 T57 T53 T58 T59 T60 T10 WE,a={tmps:=#[f,s1,s2,s3,s4,s5,s6,s7,s8,s9,T10,WE,I,I,I,I,I,I,I,I,I,I,I,I,I,I,I,I,I,s29,s30,s31,s32,s33,s34,s35,s36,s37,s38,s39,s40,s41,s42,s43,s44,s45,s46,s47,s48,s49,s50,s51,s52,T53,ja h,T55,T56,T57,T58,T59,T60,I,I,I,I,I,I,I,I,I,I,I,I,I,I,I,I,I,I,I,I,I,I,I,I,I,I,I,I,I,I,I,I,I,I,I,I,I,I,I,I,I,I,I,I,I,I,I,I,I,I,I,I,I,I,I,I,I,I,I,I,I,I,I,I,I,I,I,I,I,I,I,I,I,I,I,I,I,I,I,I,I,I,I,I,I,I,I,I,I,I,I,I,I,I,I,I,I,I,I,I,I,I,I,I,I,I,I,I,I,I,I,I,I,I,I,I,I,I,I,I,I,I,I,I,I,I,I,I,I,I,I,I,I,I,I,I,I,I,I,I,I,I,I,I,I,I,I,I,I,I],defers:=[]}/\jm b b W/\(1<=j->T55=ja E)/\(2<=j->aH (·<W.heap.size) W T56 5 1 E.toList)/\
  (3<=j->∃q m t d e,T57=jv #[ja d,ja e,.bool jh]/\(4<=j->T53=T57)/\(5<=j->T58=ja d)/\(6<=j->T59=ja e)/\(7<=j->T60=.bool jh)/\fx b W T10 WE g c q m t d e)/\
  iB VC.t VC.Z b i T10 W/\iB VG.t VG.Z b k WE W
theorem J5(w:ji)(a:gJ w):jr jo 4 #[] w λe w'=>e=jt (.bool jh)/\jm w w w':=by
 have f:=O (SSt.start a);clear a;obtain⟨bb,h⟩:=J AG3;have j:=O h;obtain⟨E1,a⟩:=J ((cR 1).cells.toArray);have i:jb (E1.size=5):=O (by rw[a];rfl);have m:jb (E1.toList=(cR 1).cells):=O (by rw[a]);have k:jb (∀W,jr jo 14 #[je jf 1] W λe w'=>e=jt (ja E1)/\jm W W w'):=O (λW=>by rw[a];exact FQ 1 L W);have n:jb (∀(W:ji) (vl:jd),gJ W->aH (·<W.heap.size) W vl 5 1 E1.toList->jr jo 13 #[ja bb,je jf 1,je .u8 1,vl] W λe w'=>∃q vm vt l AG,gZ (aM 3) bF W w' e q vm vt l AG):=O (λW vl P hs=>by
  rw[m]at hs;exact vF (d:=1) L 1#8 wn.1 N lT lD.1 h (SU W 3) P hs)
 obtain⟨E0,b⟩:=J ((cR 0).cells.toArray);have Wy:jb (E0.size=5):=O (by rw[b];rfl);have au:jb (E0.toList=(cR 0).cells):=O (by rw[b]);have Vr:jb (∀W,jr jo 14 #[je jf 0] W λe w'=>e=jt (ja E0)/\jm W W w'):=O (λW=>by rw[b];exact FQ 0 L W);obtain⟨F1,c⟩:=J ((dJ 1 5).cells.toArray);have a6:jb (F1.size=5):=O (by rw[c];rfl);have a5:jb (F1.toList=(dJ 1 5).cells):=O (by rw[c]);have UR:jb (∀W,jr jo 15 #[je jf 1,je jf 5] W λe w'=>e=jt (ja F1)/\jm W W w'):=O (λW=>by rw[c];exact GB 1 5 W);obtain⟨F0,g⟩:=J ((dJ 0 5).cells.toArray);have bh:jb (F0.size=5):=O (by rw[g];rfl);have bl:jb (F0.toList=(dJ 0 5).cells):=O (by rw[g]);have U1:jb (∀W,jr jo 15 #[je jf 0,je jf 5] W λe w'=>e=jt (ja F0)/\jm W W w'):=O (λW=>by rw[g];exact GB 0 5 W);clear h a b c g
 go_enter func4,ntmps4
 go_upto_region 1 with fail
 go_wp2_with (refine eD (v:=ja bb) ai (by rw[j];exact Ji N _) ?_;refine G ?_)
 refine(k w).mono ?_;rintro e x1 ⟨rfl,b⟩;replace f:=O (f.below b);clear b k
 go_wp2_with (refine oj N λ_ B=>RCg.wp_build (.tmp 31) N (ja E1) N i (B _ _ ?_);clear B;refine G ?_)
 have g:jb (aH (·<(x1.alloc (jk E1 RCg.e)).heap.size) (x1.alloc (jk E1 RCg.e)) (jl (jc ⟨x1,0,jj⟩) 1 1) 5 1 E1.toList):=O (uR (jG x1 _) i);replace f:=O (f.below (ap x1 (jk E1 RCg.e)));refine(n _ _ f.tab g).mono ?_;rintro e x2 ⟨q1,m1,t1,S,R,a⟩;obtain rfl:=a.ret;replace f:=O ((f.below a.bel).made a.com (λk h=>h.2) a.grp.grp);have c:=O a;have bi:=O a.ac;have bv:=O a.ag;clear a n g i m j
 go_upto_region 2 with(first|(refine VC.made N N (G ?_))|(refine VG.made N N ?_;rw[j3];refine G ?_)|(refine VC.store N N N S N c.csz c.cone (av (jG x2 _) (ap _ _)) VC.hZ (G ?_))|(refine VG.store N N N R N c.gsz c.gone (BU VC VG x2 S) VG.hZ (G ?_)))
 obtain⟨x3,B1,z,U,u,x,b⟩:=JF VC VG S R x2;rw[<-z,<-U];replace f:=O (((f.below b).block x).block u);have bc:jb (R.size=VG.n):=O c.gsz;have bf:jb (S.size=VC.n):=O c.csz;clear z U u x b c;have VN:jb (∀(W:ji) (vl:jd),gJ W->bH W (aB (aM 3) bF) m1 t1->aH (·<W.heap.size) W vl 5 1 E0.toList->jr jo 13 #[ja R,je jf 1,je .u8 2,vl] W λe w'=>∃q vm vt l AG,gZ (aB (aM 3) bF) bU W w' e q vm vt l AG):=O (λW vl P hg hs=>by
  rw[au]at hs;exact vF (d:=1) L 2#8 wn.2.1 N li lD.2.1 bv hg P hs)
 have b:=bX x3;obtain⟨x4,z⟩:=J x3.drew;have HX:=O z;rw[<-z]at b;replace f:=O (f.below b);clear z b;refine j8 ?_;refine uw (λF=>F.heap[B1+1]?=jc (jk R VG.t (0,0))) [0] [(1,jq),(2,jq),(3,jq),(4,jh),(5,jh),(6,jh),(7,jh)] 8 9 (.o 10 (.o 11 (.t 12 .done))) (T9 x4 (.bool jq) (ptr B1) (ptr (B1+1)) (.bool jh) (jv #[ja S,ja R,.bool jh]) (ja bb) (ja E1) (jl (jc ⟨x1,0,jj⟩) 1 1) (jv #[ja S,ja R,.bool jh]) (ja S) (ja R) (.bool jh) R E0 (aB (aM 3) bF) bU) af af af af af L (λ_ _ _ _ h=>h) (by rw[<-HX];exact f.blk (_,_,_) ao) ?hIR2 ?hTR2 ?hCR2 ?h1R2 ?h2R2 ?hER2 ?h0R2
 case hIR2=>
  rintro j b1 b2 a W ⟨T39,T40,T41,T37,T42,T43,T44,T4,T5,rfl,b,u,x,C,r,s⟩;exact av (f.blk (_,_,_) ao) b
 case h1R2=>
  rintro j b2 a W ⟨T39,T40,T41,T37,T42,T43,T44,T4,T5,rfl,b,u,x,C,r,s⟩;refine jJ (o:=_) N (λV B=>?_);rw[jA ai];refine gM VC.t N VC.Z VC.hal ?_;have c:=ap W (jk VC.Z VC.t);refine B _ _ ⟨T39,T40,T41,T37,T42,T43,T44,ptr W.heap.size,T5,N,b.trans (c.mono b.size),u,(λe=>((x e).keep λk g=>c.block k g).mono λk (g:k<W.heap.size)=>jw g c.size),λe=>?_,⟨λ_=>⟨_,N,jG _ _,b.size⟩,λh=>(by cases h)⟩,s.keep c⟩;obtain⟨q,m,t,l,p,X,D,E,K,M,n⟩:=C e;exact⟨q,m,t,l,p,X,D,E,K,M,(n.c (jz _)).keep c⟩
 case h2R2=>
  rintro j b1 a W ⟨T39,T40,T41,T37,T42,T43,T44,T4,T5,rfl,b,u,x,C,r,s⟩;refine jJ (o:=_) N (λV B=>?_);rw[jA ai];refine gM VG.t N VG.Z VG.hal ?_;have c:=ap W (jk VG.Z VG.t);refine B _ _ ⟨T39,T40,T41,T37,T42,T43,T44,T4,ptr W.heap.size,N,b.trans (c.mono b.size),u,(λe=>((x e).keep λk g=>c.block k g).mono λk (g:k<W.heap.size)=>jw g c.size),λe=>?_,r.keep c,⟨λ_=>⟨_,N,jG _ _,b.size⟩,λh=>(by cases h)⟩⟩;obtain⟨q,m,t,l,p,X,D,E,K,M,n⟩:=C e;exact⟨q,m,t,l,p,X,D,E,K,M,(n.g (jz _)).keep c⟩
 case h0R2=>
  rw[<-HX]
  (refine nL (v:=ja R) N ai (λF hS=>cM VG.hu VG.hd (by rw[bc];exact VG.hi) N N hS) ?_;refine G ?_)
  exact⟨I,I,I,I,I,I,I,I,I,N,jI _ _,λh=>js h L,λh=>js h L,λh=>js h L,⟨λh=>(by cases h),λ_=>rfl⟩,⟨λh=>(by cases h),λ_=>rfl⟩⟩
 case hTR2=>
  rintro j i H b1 b2 a W ⟨T39,T40,T41,T37,T42,T43,T44,T4,T5,rfl,b,u,x,C,r,s⟩
  rcases j with _ |_ |_ |_ |_ |_ |_ |j
  iterate 3 (·simp at H)
  ·obtain rfl:i=4:=ak H.symm
   obtain⟨q,m,t,l,p,X,D,E,K,M,n⟩:=C Y;refine⟨_,T41,N,.inl ⟨by rfl,λF hS=>.inl (by go_simp;try with_reducible rfl)⟩,?_⟩;exact⟨T39,T40,T41,T41,T42,T43,T44,T4,T5,N,b,λ_=>u Y,λ_=>x Y,λ_=>⟨q,m,t,l,p,X,λ_=>rfl,(λh=>js h Y),(λh=>js h Y),(λh=>js h Y),n⟩,r,s⟩
  ·obtain rfl:i=5:=ak H.symm
   obtain⟨q,m,t,l,p,rfl,D,E,K,M,n⟩:=C Y;obtain rfl:=D Y;refine⟨_,ja l,N,.inl ⟨by rfl,λF hS=>.inl (by go_simp;try with_reducible rfl)⟩,?_⟩;exact⟨T39,T40,_,_,_,T43,T44,T4,T5,N,b,λ_=>u Y,λ_=>x Y,λ_=>⟨q,m,t,l,p,N,λ_=>rfl,λ_=>rfl,(λh=>js h Y),(λh=>js h Y),n⟩,r,s⟩
  ·obtain rfl:i=6:=ak H.symm
   obtain⟨q,m,t,l,p,rfl,D,E,K,M,n⟩:=C Y;obtain rfl:=D Y;refine⟨_,ja p,N,.inl ⟨by rfl,λF hS=>.inl (by go_simp;try with_reducible rfl)⟩,?_⟩;exact⟨T39,T40,_,_,T42,_,T44,T4,T5,N,b,λ_=>u Y,λ_=>x Y,λ_=>⟨q,m,t,l,p,N,λ_=>rfl,λ_=>E Y,λ_=>rfl,(λh=>js h Y),n⟩,r,s⟩
  ·obtain rfl:i=7:=ak H.symm
   obtain⟨q,m,t,l,p,rfl,D,E,K,M,n⟩:=C Y;obtain rfl:=D Y;refine⟨_,.bool jh,N,.inl ⟨by rfl,λF hS=>.inl (by go_simp;try with_reducible rfl)⟩,?_⟩;exact⟨T39,T40,_,_,T42,T43,_,T4,T5,N,b,λ_=>u Y,λ_=>x Y,λ_=>⟨q,m,t,l,p,N,λ_=>rfl,λ_=>E Y,λ_=>K Y,λ_=>rfl,n⟩,r,s⟩
  simp at H
 case hCR2=>
  rintro j i H b1 b2 a W ⟨T39,T40,T41,T37,T42,T43,T44,T4,T5,rfl,b,u,x,C,r,s⟩
  rcases j with _ |_ |_ |_ |_ |_ |_ |j
  ·obtain rfl:i=1:=ak H.symm
   refine jJ (o:=_) N (λV B=>?_);go_simp;refine(Vr W).mono ?_;rintro e F ⟨rfl,c⟩;exact B _ _ ⟨_,T40,T41,T37,T42,T43,T44,T4,T5,N,b.trans (c.mono b.size),λ_=>rfl,(λh=>js h Y),(λh=>js h Y),r.keep c,s.keep c⟩
  ·obtain rfl:i=2:=ak H.symm
   obtain rfl:=u Y;refine jJ (o:=_) N (λV B=>?_);rw[jA ai];refine RCg.wp_build (.tmp 39) N (ja E0) N Wy ?_;have c:=ap W (jk E0 RCg.e);exact B _ _ ⟨_,_,T41,T37,T42,T43,T44,T4,T5,N,b.trans (c.mono b.size),λ_=>rfl,λ_=>uR (jG W _) Wy,(λh=>js h Y),r.keep c,s.keep c⟩
  ·obtain rfl:i=3:=ak H.symm
   have ad:=x Y;obtain rfl:=u Y;clear x;refine jJ (o:=_) N (λV B=>?_);go_simp;refine(VN W _ ((f.below b).tab) ((f.below b).grp ((aB (aM 3) bF),m1,t1) ao) ad).mono ?_;rintro e F ⟨q,m,t,l,p,hP⟩;obtain rfl:=hP.ret;have c:=hP.bel;exact B _ _ ⟨_,T40,_,T37,T42,T43,T44,T4,T5,N,b.trans (c.mono b.size),λ_=>rfl,λ_=>(ad.keep λk g=>c.block k g).mono λk (g:k<W.heap.size)=>jw g c.size,λ_=>⟨q,m,t,l,p,N,(λh=>js h Y),(λh=>js h Y),(λh=>js h Y),(λh=>js h Y),fx.of hP b.size (λk g=>r.ne g) (λk g=>s.ne g)⟩,r.keep c,s.keep c⟩
  iterate 5 (·simp at H)
 rintro a W ⟨T39,T40,T41,T37,T42,T43,T44,T4,T5,rfl,b,u,x,C,r,s⟩;obtain⟨q2,m2,t2,aa,Q,rfl,D,E,K,M,n⟩:=C L;obtain rfl:=D L;obtain rfl:=E L;obtain rfl:=K L;obtain rfl:=M L;obtain⟨C2,rfl,hC,ax⟩:=r.1 N;obtain⟨K2,rfl,B,ay⟩:=s.1 N;obtain⟨a1,y,hy,y1,y2,y3,y4,y5⟩:=n.end b hC ax B ay;have a2:=(f.below b).blk (B1+1,R,VG.t) ao;have a3:=(f.below y5).blk (B1+1,R,VG.t) ao;have ba:=O n.csz;have bg:=O n.gsz;have bk:=O n.ac;have bm:=O n.ag;have a4:B1+1≠C2:=λe=>by have h:=(jN.1 (f.blk (B1+1,R,VG.t) ao)).1;dsimp only at h;omega
 replace f:=O ((((f.below y5).made y3 (λk h=>h) y4).block y2).block y1);refine aE N (λV Vf=>?_);rw[jA ai];refine jW VC.t _ _ N C2 aa N N VC.t VC.Z hC (by rw[ba];exact VC.hi) (VC.hZ.trans ba.symm) n.cone ?_;refine Vf _ _ ((jM W C2 _ aa a4).trans a2) λ_=>?_
 clear Vf;refine G ?_;refine aE N (λV Vf=>?_);rw[jA ai];refine jW VG.t _ _ N K2 Q N N VG.t VG.Z a1 (by rw[bg];exact VG.hi) (VG.hZ.trans bg.symm) n.gone ?_;rw[<-hy];refine Vf _ _ a3 λ_=>?_
 clear Vf hC ax B ay b u x C D E K M n r s a1 hy y1 y2 y3 y4 y5 a2 a3 a4 HX;refine G ?_;refine aK ?_;refine jQ ?_;obtain⟨x5,z⟩:=J y;rw[<-z]at f⊢;clear z
 go_upto_region 3 with fail
 clear VN Vr Wy au bc;have Wx:jb (∀(W:ji) (vl:jd),gJ W->bH W (aB (aB (aM 3) bF) bU) m2 t2->aH (·<W.heap.size) W vl 5 1 F1.toList->jr jo 13 #[ja Q,je jf 0,je .u8 3,vl] W λe w'=>∃q vm vt l AG,gZ (aB (aB (aM 3) bF) bU) cS3 W w' e q vm vt l AG):=O (λW vl P hg hs=>by
  rw[a5]at hs;exact vF (d:=0) L 3#8 wn.2.2.1 N D9 lD.2.2.1 bm hg P hs)
 have b:=bX x5;obtain⟨x6,z⟩:=J x5.drew;have HX:=O z;rw[<-z]at b;replace f:=O (f.below b);clear z b;refine j8 ?_;refine uw (λF=>F.heap[K2]?=jc (jk Q VG.t (0,0))) [0] [(1,jq),(2,jq),(3,jq),(4,jh),(5,jh),(6,jh),(7,jh)] 8 9 (.o 10 (.o 11 (.t 12 .done))) (OA x6 (.bool jq) (ptr B1) (ptr (B1+1)) (.bool jh) (ptr C2) (ptr K2) (.bool jh) (jv #[ja S,ja R,.bool jh]) (ja bb) (ja E1) (jl (jc ⟨x1,0,jj⟩) 1 1) (jv #[ja S,ja R,.bool jh]) (ja S) (ja R) (.bool jh) (jv #[ja aa,ja Q,.bool jh]) (ja R) (T39) (T40) (jv #[ja aa,ja Q,.bool jh]) (ja aa) (ja Q) (.bool jh) Q F1 (aB (aB (aM 3) bF) bU) cS3) af af af af af L (λ_ _ _ _ h=>h) (by rw[<-HX];exact f.blk (_,_,_) ao) ?hIR3 ?hTR3 ?hCR3 ?h1R3 ?h2R3 ?hER3 ?h0R3
 case hIR3=>
  rintro j b1 b2 a W ⟨T47,T48,T49,T45,T50,T51,T52,T7,T8,rfl,b,u,x,C,r,s⟩;exact av (f.blk (_,_,_) ao) b
 case h1R3=>
  rintro j b2 a W ⟨T47,T48,T49,T45,T50,T51,T52,T7,T8,rfl,b,u,x,C,r,s⟩;refine jJ (o:=_) N (λV B=>?_);rw[jA ai];refine gM VC.t N VC.Z VC.hal ?_;have c:=ap W (jk VC.Z VC.t);refine B _ _ ⟨T47,T48,T49,T45,T50,T51,T52,ptr W.heap.size,T8,N,b.trans (c.mono b.size),u,(λe=>((x e).keep λk g=>c.block k g).mono λk (g:k<W.heap.size)=>jw g c.size),λe=>?_,⟨λ_=>⟨_,N,jG _ _,b.size⟩,λh=>(by cases h)⟩,s.keep c⟩;obtain⟨q,m,t,l,p,X,D,E,K,M,n⟩:=C e;exact⟨q,m,t,l,p,X,D,E,K,M,(n.c (jz _)).keep c⟩
 case h2R3=>
  rintro j b1 a W ⟨T47,T48,T49,T45,T50,T51,T52,T7,T8,rfl,b,u,x,C,r,s⟩;refine jJ (o:=_) N (λV B=>?_);rw[jA ai];refine gM VG.t N VG.Z VG.hal ?_;have c:=ap W (jk VG.Z VG.t);refine B _ _ ⟨T47,T48,T49,T45,T50,T51,T52,T7,ptr W.heap.size,N,b.trans (c.mono b.size),u,(λe=>((x e).keep λk g=>c.block k g).mono λk (g:k<W.heap.size)=>jw g c.size),λe=>?_,r.keep c,⟨λ_=>⟨_,N,jG _ _,b.size⟩,λh=>(by cases h)⟩⟩;obtain⟨q,m,t,l,p,X,D,E,K,M,n⟩:=C e;exact⟨q,m,t,l,p,X,D,E,K,M,(n.g (jz _)).keep c⟩
 case h0R3=>
  rw[<-HX]
  (refine nL (v:=ja Q) N ai (λF hS=>cM VG.hu VG.hd (by rw[bg];exact VG.hi) N N hS) ?_;refine G ?_)
  exact⟨I,I,I,I,I,I,I,I,I,N,jI _ _,λh=>js h L,λh=>js h L,λh=>js h L,⟨λh=>(by cases h),λ_=>rfl⟩,⟨λh=>(by cases h),λ_=>rfl⟩⟩
 case hTR3=>
  rintro j i H b1 b2 a W ⟨T47,T48,T49,T45,T50,T51,T52,T7,T8,rfl,b,u,x,C,r,s⟩
  rcases j with _ |_ |_ |_ |_ |_ |_ |j
  iterate 3 (·simp at H)
  ·obtain rfl:i=4:=ak H.symm
   obtain⟨q,m,t,l,p,X,D,E,K,M,n⟩:=C Y;refine⟨_,T49,N,.inl ⟨by rfl,λF hS=>.inl (by go_simp;try with_reducible rfl)⟩,?_⟩;exact⟨T47,T48,T49,T49,T50,T51,T52,T7,T8,N,b,λ_=>u Y,λ_=>x Y,λ_=>⟨q,m,t,l,p,X,λ_=>rfl,(λh=>js h Y),(λh=>js h Y),(λh=>js h Y),n⟩,r,s⟩
  ·obtain rfl:i=5:=ak H.symm
   obtain⟨q,m,t,l,p,rfl,D,E,K,M,n⟩:=C Y;obtain rfl:=D Y;refine⟨_,ja l,N,.inl ⟨by rfl,λF hS=>.inl (by go_simp;try with_reducible rfl)⟩,?_⟩;exact⟨T47,T48,_,_,_,T51,T52,T7,T8,N,b,λ_=>u Y,λ_=>x Y,λ_=>⟨q,m,t,l,p,N,λ_=>rfl,λ_=>rfl,(λh=>js h Y),(λh=>js h Y),n⟩,r,s⟩
  ·obtain rfl:i=6:=ak H.symm
   obtain⟨q,m,t,l,p,rfl,D,E,K,M,n⟩:=C Y;obtain rfl:=D Y;refine⟨_,ja p,N,.inl ⟨by rfl,λF hS=>.inl (by go_simp;try with_reducible rfl)⟩,?_⟩;exact⟨T47,T48,_,_,T50,_,T52,T7,T8,N,b,λ_=>u Y,λ_=>x Y,λ_=>⟨q,m,t,l,p,N,λ_=>rfl,λ_=>E Y,λ_=>rfl,(λh=>js h Y),n⟩,r,s⟩
  ·obtain rfl:i=7:=ak H.symm
   obtain⟨q,m,t,l,p,rfl,D,E,K,M,n⟩:=C Y;obtain rfl:=D Y;refine⟨_,.bool jh,N,.inl ⟨by rfl,λF hS=>.inl (by go_simp;try with_reducible rfl)⟩,?_⟩;exact⟨T47,T48,_,_,T50,T51,_,T7,T8,N,b,λ_=>u Y,λ_=>x Y,λ_=>⟨q,m,t,l,p,N,λ_=>rfl,λ_=>E Y,λ_=>K Y,λ_=>rfl,n⟩,r,s⟩
  simp at H
 case hCR3=>
  rintro j i H b1 b2 a W ⟨T47,T48,T49,T45,T50,T51,T52,T7,T8,rfl,b,u,x,C,r,s⟩
  rcases j with _ |_ |_ |_ |_ |_ |_ |j
  ·obtain rfl:i=1:=ak H.symm
   refine jJ (o:=_) N (λV B=>?_);go_simp;refine(UR W).mono ?_;rintro e F ⟨rfl,c⟩;exact B _ _ ⟨_,T48,T49,T45,T50,T51,T52,T7,T8,N,b.trans (c.mono b.size),λ_=>rfl,(λh=>js h Y),(λh=>js h Y),r.keep c,s.keep c⟩
  ·obtain rfl:i=2:=ak H.symm
   obtain rfl:=u Y;refine jJ (o:=_) N (λV B=>?_);rw[jA ai];refine RCg.wp_build (.tmp 47) N (ja F1) N a6 ?_;have c:=ap W (jk F1 RCg.e);exact B _ _ ⟨_,_,T49,T45,T50,T51,T52,T7,T8,N,b.trans (c.mono b.size),λ_=>rfl,λ_=>uR (jG W _) a6,(λh=>js h Y),r.keep c,s.keep c⟩
  ·obtain rfl:i=3:=ak H.symm
   have ad:=x Y;obtain rfl:=u Y;clear x;refine jJ (o:=_) N (λV B=>?_);go_simp;refine(Wx W _ ((f.below b).tab) ((f.below b).grp ((aB (aB (aM 3) bF) bU),m2,t2) ao) ad).mono ?_;rintro e F ⟨q,m,t,l,p,hP⟩;obtain rfl:=hP.ret;have c:=hP.bel;exact B _ _ ⟨_,T48,_,T45,T50,T51,T52,T7,T8,N,b.trans (c.mono b.size),λ_=>rfl,λ_=>(ad.keep λk g=>c.block k g).mono λk (g:k<W.heap.size)=>jw g c.size,λ_=>⟨q,m,t,l,p,N,(λh=>js h Y),(λh=>js h Y),(λh=>js h Y),(λh=>js h Y),fx.of hP b.size (λk g=>r.ne g) (λk g=>s.ne g)⟩,r.keep c,s.keep c⟩
  iterate 5 (·simp at H)
 rintro a W ⟨T47,T48,T49,T45,T50,T51,T52,T7,T8,rfl,b,u,x,C,r,s⟩;obtain⟨q3,m3,t3,au,AG3,rfl,D,E,K,M,n⟩:=C L;obtain rfl:=D L;obtain rfl:=E L;obtain rfl:=K L;obtain rfl:=M L;obtain⟨C3,rfl,hC,ax⟩:=r.1 N;obtain⟨K3,rfl,B,ay⟩:=s.1 N;obtain⟨a1,y,hy,y1,y2,y3,y4,y5⟩:=n.end b hC ax B ay;have a2:=(f.below b).blk (K2,Q,VG.t) ao;have a3:=(f.below y5).blk (K2,Q,VG.t) ao;have bc:=O n.csz;have bn:=O n.gsz;have bo:=O n.ac;have b3:=O n.ag;have a4:K2≠C3:=λe=>by have h:=(jN.1 (f.blk (K2,Q,VG.t) ao)).1;dsimp only at h;omega
 replace f:=O ((((f.below y5).made y3 (λk h=>h) y4).block y2).block y1);refine aE N (λV Vf=>?_);rw[jA ai];refine jW VC.t _ _ N C3 au N N VC.t VC.Z hC (by rw[bc];exact VC.hi) (VC.hZ.trans bc.symm) n.cone ?_;refine Vf _ _ ((jM W C3 _ au a4).trans a2) λ_=>?_
 clear Vf;refine G ?_;refine aE N (λV Vf=>?_);rw[jA ai];refine jW VG.t _ _ N K3 AG3 N N VG.t VG.Z a1 (by rw[bn];exact VG.hi) (VG.hZ.trans bn.symm) n.gone ?_;rw[<-hy];refine Vf _ _ a3 λ_=>?_
 clear Vf hC ax B ay b u x C D E K M n r s a1 hy y1 y2 y3 y4 y5 a2 a3 a4 HX;refine G ?_;refine aK ?_;refine jQ ?_;obtain⟨x7,z⟩:=J y;rw[<-z]at f⊢;clear z
 go_upto_region 4 with fail
 clear Wx UR a6 a5;have bp:jb (∀(W:ji) (vl:jd),gJ W->bH W (aB (aB (aM 3) bF) bU) m2 t2->aH (·<W.heap.size) W vl 5 1 F0.toList->jr jo 13 #[ja Q,je jf 1,je .u8 4,vl] W λe w'=>∃q vm vt l AG,gZ (aB (aB (aM 3) bF) bU) cN W w' e q vm vt l AG):=O (λW vl P hg hs=>by
  rw[bl]at hs;exact vF (d:=1) L 4#8 wn.2.2.2 N mU lD.2.2.2 bm hg P hs)
 have b:=bX x7;obtain⟨x8,z⟩:=J x7.drew;have HX:=O z;rw[<-z]at b;replace f:=O (f.below b);clear z b;refine j8 ?_;refine uw (λF=>F.heap[K2]?=jc (jk Q VG.t (0,0))) [0] [(1,jq),(2,jq),(3,jq),(4,jh),(5,jh),(6,jh),(7,jh)] 8 9 (.o 10 (.o 11 (.t 12 .done))) (Js x8 (.bool jq) (ptr B1) (ptr (B1+1)) (.bool jh) (ptr C2) (ptr K2) (.bool jh) (ptr C3) (ptr K3) (.bool jh) (jv #[ja S,ja R,.bool jh]) (ja bb) (ja E1) (jl (jc ⟨x1,0,jj⟩) 1 1) (jv #[ja S,ja R,.bool jh]) (ja S) (ja R) (.bool jh) (jv #[ja aa,ja Q,.bool jh]) (ja R) (T39) (T40) (jv #[ja aa,ja Q,.bool jh]) (ja aa) (ja Q) (.bool jh) (jv #[ja au,ja AG3,.bool jh]) (ja Q) (T47) (T48) (jv #[ja au,ja AG3,.bool jh]) (ja au) (ja AG3) (.bool jh) Q F0 (aB (aB (aM 3) bF) bU) cN) af af af af af L (λ_ _ _ _ h=>h) (by rw[<-HX];exact f.blk (_,_,_) ao) ?hIR4 ?hTR4 ?hCR4 ?h1R4 ?h2R4 ?hER4 ?h0R4
 case hIR4=>
  rintro j b1 b2 a W ⟨T55,T56,T57,T53,T58,T59,T60,T10,WE,rfl,b,u,x,C,r,s⟩;exact av (f.blk (_,_,_) ao) b
 case h1R4=>
  rintro j b2 a W ⟨T55,T56,T57,T53,T58,T59,T60,T10,WE,rfl,b,u,x,C,r,s⟩;refine jJ (o:=_) N (λV B=>?_);rw[jA ai];refine gM VC.t N VC.Z VC.hal ?_;have c:=ap W (jk VC.Z VC.t);refine B _ _ ⟨T55,T56,T57,T53,T58,T59,T60,ptr W.heap.size,WE,N,b.trans (c.mono b.size),u,(λe=>((x e).keep λk g=>c.block k g).mono λk (g:k<W.heap.size)=>jw g c.size),λe=>?_,⟨λ_=>⟨_,N,jG _ _,b.size⟩,λh=>(by cases h)⟩,s.keep c⟩;obtain⟨q,m,t,l,p,X,D,E,K,M,n⟩:=C e;exact⟨q,m,t,l,p,X,D,E,K,M,(n.c (jz _)).keep c⟩
 case h2R4=>
  rintro j b1 a W ⟨T55,T56,T57,T53,T58,T59,T60,T10,WE,rfl,b,u,x,C,r,s⟩;refine jJ (o:=_) N (λV B=>?_);rw[jA ai];refine gM VG.t N VG.Z VG.hal ?_;have c:=ap W (jk VG.Z VG.t);refine B _ _ ⟨T55,T56,T57,T53,T58,T59,T60,T10,ptr W.heap.size,N,b.trans (c.mono b.size),u,(λe=>((x e).keep λk g=>c.block k g).mono λk (g:k<W.heap.size)=>jw g c.size),λe=>?_,r.keep c,⟨λ_=>⟨_,N,jG _ _,b.size⟩,λh=>(by cases h)⟩⟩;obtain⟨q,m,t,l,p,X,D,E,K,M,n⟩:=C e;exact⟨q,m,t,l,p,X,D,E,K,M,(n.g (jz _)).keep c⟩
 case h0R4=>
  rw[<-HX]
  (refine nL (v:=ja Q) N ai (λF hS=>cM VG.hu VG.hd (by rw[bg];exact VG.hi) N N hS) ?_;refine G ?_)
  exact⟨I,I,I,I,I,I,I,I,I,N,jI _ _,λh=>js h L,λh=>js h L,λh=>js h L,⟨λh=>(by cases h),λ_=>rfl⟩,⟨λh=>(by cases h),λ_=>rfl⟩⟩
 case hTR4=>
  rintro j i H b1 b2 a W ⟨T55,T56,T57,T53,T58,T59,T60,T10,WE,rfl,b,u,x,C,r,s⟩
  rcases j with _ |_ |_ |_ |_ |_ |_ |j
  iterate 3 (·simp at H)
  ·obtain rfl:i=4:=ak H.symm
   obtain⟨q,m,t,l,p,X,D,E,K,M,n⟩:=C Y;refine⟨_,T57,N,.inl ⟨by rfl,λF hS=>.inl (by go_simp;try with_reducible rfl)⟩,?_⟩;exact⟨T55,T56,T57,T57,T58,T59,T60,T10,WE,N,b,λ_=>u Y,λ_=>x Y,λ_=>⟨q,m,t,l,p,X,λ_=>rfl,(λh=>js h Y),(λh=>js h Y),(λh=>js h Y),n⟩,r,s⟩
  ·obtain rfl:i=5:=ak H.symm
   obtain⟨q,m,t,l,p,rfl,D,E,K,M,n⟩:=C Y;obtain rfl:=D Y;refine⟨_,ja l,N,.inl ⟨by rfl,λF hS=>.inl (by go_simp;try with_reducible rfl)⟩,?_⟩;exact⟨T55,T56,_,_,_,T59,T60,T10,WE,N,b,λ_=>u Y,λ_=>x Y,λ_=>⟨q,m,t,l,p,N,λ_=>rfl,λ_=>rfl,(λh=>js h Y),(λh=>js h Y),n⟩,r,s⟩
  ·obtain rfl:i=6:=ak H.symm
   obtain⟨q,m,t,l,p,rfl,D,E,K,M,n⟩:=C Y;obtain rfl:=D Y;refine⟨_,ja p,N,.inl ⟨by rfl,λF hS=>.inl (by go_simp;try with_reducible rfl)⟩,?_⟩;exact⟨T55,T56,_,_,T58,_,T60,T10,WE,N,b,λ_=>u Y,λ_=>x Y,λ_=>⟨q,m,t,l,p,N,λ_=>rfl,λ_=>E Y,λ_=>rfl,(λh=>js h Y),n⟩,r,s⟩
  ·obtain rfl:i=7:=ak H.symm
   obtain⟨q,m,t,l,p,rfl,D,E,K,M,n⟩:=C Y;obtain rfl:=D Y;refine⟨_,.bool jh,N,.inl ⟨by rfl,λF hS=>.inl (by go_simp;try with_reducible rfl)⟩,?_⟩;exact⟨T55,T56,_,_,T58,T59,_,T10,WE,N,b,λ_=>u Y,λ_=>x Y,λ_=>⟨q,m,t,l,p,N,λ_=>rfl,λ_=>E Y,λ_=>K Y,λ_=>rfl,n⟩,r,s⟩
  simp at H
 case hCR4=>
  rintro j i H b1 b2 a W ⟨T55,T56,T57,T53,T58,T59,T60,T10,WE,rfl,b,u,x,C,r,s⟩
  rcases j with _ |_ |_ |_ |_ |_ |_ |j
  ·obtain rfl:i=1:=ak H.symm
   refine jJ (o:=_) N (λV B=>?_);go_simp;refine(U1 W).mono ?_;rintro e F ⟨rfl,c⟩;exact B _ _ ⟨_,T56,T57,T53,T58,T59,T60,T10,WE,N,b.trans (c.mono b.size),λ_=>rfl,(λh=>js h Y),(λh=>js h Y),r.keep c,s.keep c⟩
  ·obtain rfl:i=2:=ak H.symm
   obtain rfl:=u Y;refine jJ (o:=_) N (λV B=>?_);rw[jA ai];refine RCg.wp_build (.tmp 55) N (ja F0) N bh ?_;have c:=ap W (jk F0 RCg.e);exact B _ _ ⟨_,_,T57,T53,T58,T59,T60,T10,WE,N,b.trans (c.mono b.size),λ_=>rfl,λ_=>uR (jG W _) bh,(λh=>js h Y),r.keep c,s.keep c⟩
  ·obtain rfl:i=3:=ak H.symm
   have ad:=x Y;obtain rfl:=u Y;clear x;refine jJ (o:=_) N (λV B=>?_);go_simp;refine(bp W _ ((f.below b).tab) ((f.below b).grp ((aB (aB (aM 3) bF) bU),m2,t2) ao) ad).mono ?_;rintro e F ⟨q,m,t,l,p,hP⟩;obtain rfl:=hP.ret;have c:=hP.bel;exact B _ _ ⟨_,T56,_,T53,T58,T59,T60,T10,WE,N,b.trans (c.mono b.size),λ_=>rfl,λ_=>(ad.keep λk g=>c.block k g).mono λk (g:k<W.heap.size)=>jw g c.size,λ_=>⟨q,m,t,l,p,N,(λh=>js h Y),(λh=>js h Y),(λh=>js h Y),(λh=>js h Y),fx.of hP b.size (λk g=>r.ne g) (λk g=>s.ne g)⟩,r.keep c,s.keep c⟩
  iterate 5 (·simp at H)
 rintro a W ⟨T55,T56,T57,T53,T58,T59,T60,T10,WE,rfl,b,u,x,C,r,s⟩;obtain⟨q4,m4,t4,a5,bq,rfl,D,E,K,M,n⟩:=C L;obtain rfl:=D L;obtain rfl:=E L;obtain rfl:=K L;obtain rfl:=M L;obtain⟨C4,rfl,hC,ax⟩:=r.1 N;obtain⟨K4,rfl,B,ay⟩:=s.1 N;obtain⟨a1,y,hy,y1,y2,y3,y4,y5⟩:=n.end b hC ax B ay;have a2:=(f.below b).blk (K2,Q,VG.t) ao;have a3:=(f.below y5).blk (K2,Q,VG.t) ao;have bd:=O n.csz;have br:=O n.gsz;have bs:=O n.ac;have b1:=O n.ag;have a4:K2≠C4:=λe=>by have h:=(jN.1 (f.blk (K2,Q,VG.t) ao)).1;dsimp only at h;omega
 replace f:=O ((((f.below y5).made y3 (λk h=>h) y4).block y2).block y1);refine aE N (λV Vf=>?_);rw[jA ai];refine jW VC.t _ _ N C4 a5 N N VC.t VC.Z hC (by rw[bd];exact VC.hi) (VC.hZ.trans bd.symm) n.cone ?_;refine Vf _ _ ((jM W C4 _ a5 a4).trans a2) λ_=>?_
 clear Vf;refine G ?_;refine aE N (λV Vf=>?_);rw[jA ai];refine jW VG.t _ _ N K4 bq N N VG.t VG.Z a1 (by rw[br];exact VG.hi) (VG.hZ.trans br.symm) n.gone ?_;rw[<-hy];refine Vf _ _ a3 λ_=>?_
 clear Vf hC ax B ay b u x C D E K M n r s a1 hy y1 y2 y3 y4 y5 a2 a3 a4 HX;refine G ?_;refine aK ?_;refine jQ ?_;obtain⟨x9,z⟩:=J y;rw[<-z]at f⊢;clear z
 go_upto_region 5 with fail
 clear bp U1 bh bl
 go_upto_region 6 with(first|(refine VC.loadA ai N N au bc (f.blk (C3,au,VC.t) ao) (G ?_))|(refine VC.loadA ai N N aa ba (f.blk (C2,aa,VC.t) ao) (G ?_))|(refine VC.loadA ai N N a5 bd (f.blk (C4,a5,VC.t) ao) (G ?_))|(refine VC.loadA ai N N S bf (f.blk (B1,S,VC.t) ao) (G ?_))|(refine RCm.four N _ _ _ _ N au aa a5 S N N N N bc ba bd bf (G ?_)))
 obtain⟨bw,t,z,U,c,b⟩:=cX x9 (au.toList++(aa.toList++(a5.toList++S.toList))).toArray RCm.e;rw[<-z,<-U];obtain⟨LS,m⟩:∃l:jn CP,l=[(cS3,q3),(bU,q2),(cN,q4),(bF,q1)]:=⟨_,N⟩;have q:jb (cF bw (jl (jc ⟨t,0,jj⟩) 4 4) LS):=O (by
  rw[m];refine⟨⟨?_,_,4,N,jz _,(λe=>by cases e),λ_=>⟨t,0,N,(jN.1 c).1,λj ay hj=>?_⟩⟩,λp F=>(f.below b).com p (by rcases(by simpa using F:p=(cS3,q3)\/p=(bU,q2)\/p=(cN,q4)\/p=(bF,q1))with h|h|h|h<;>simp[h])⟩
  ·have V:(aF cS3 q3).length=73:=by have h:=bc.out;rw[bo,jD]at h;exact h
   have X:(aF bU q2).length=73:=by have h:=ba.out;rw[bk,jD]at h;exact h
   have e3:(aF cN q4).length=73:=by have h:=bd.out;rw[bs,jD]at h;exact h
   have e4:(aF bF q1).length=73:=by have h:=bf.out;rw[bi,jD]at h;exact h
   simp only[mz,qd,jU,qD,pL,V,X,e3,e4]
   rfl
  have h:=c.out;rw[bo,bk,bs,bi]at h;refine ah h ?_
  simpa [pL]using hj)
 have a2:=O m;replace f:=O (f.below b);clear z U b c m;obtain⟨I1,F⟩:=J (((aG bF).map v8).toArray);have WI:jb (I1.size=32):=O (by rw[F,jD,jO,dS]);have a1:jb (∀W,SSt w [(C4,a5,VC.t),(K4,bq,VG.t),(C3,au,VC.t),(K3,AG3,VG.t),(C2,aa,VC.t),(K2,Q,VG.t),(B1,S,VC.t),(B1+1,R,VG.t)] [(cN,q4),(cS3,q3),(bU,q2),(bF,q1)] [(aB (aB (aB (aM 3) bF) bU) cN,m4,t4),(aB (aB (aB (aM 3) bF) bU) cS3,m3,t3),(aB (aB (aM 3) bF) bU,m2,t2),(aB (aM 3) bF,m1,t1)] W->jr jo 8 #[ja S] W λe w'=>e=jt (ja I1)/\jm W W w'):=O (λW c=>by
  rw[bi,F];exact pY bF q1 W (c.com (bF,q1) ao) lD.1 c.tab.s.dig)
 obtain⟨m,V⟩:=J (#[jy .i64 3]++I1);have X:jb (m=(dz 3 (aG bF)).toArray):=O (by rw[V,F];unfold dz;simp);have a3:=O V;have ax:jb (m.size=VF.n):=O (by rw[X,jD];unfold dz;rw[qA,jO,dS];rfl);have a6:jb (m.all (·.oneCell')=jh):=O (by
  rw[X,j5];intro ay c;simp only[dz,qs,jF]at c
  rcases c with rfl|c
  ·rfl
  exact iu _ ay c)
 clear F V
 go_wp2_with (refine VC.loadA ai N N S bf (f.blk (B1,S,VC.t) ao) (G ?_))
 refine(a1 _ f.out).mono ?_;rintro e bA ⟨rfl,b⟩;replace f:=O (f.below b);replace q:=O (q.below b);clear b a1
 go_upto_region 7 with(first|(refine eD (v:=ja m) ai (by rw[a3];exact OY WI N N _) ?_;refine G ?_)|(refine VF.made N N (G ?_))|(refine VF.first N N N m N ax a6 (G ?_)))
 obtain⟨b2,F,z,U,V,b⟩:=cX bA m VF.t;rw[<-z,<-U];replace f:=O (((f.below b)).block V);replace q:=O (q.below b);clear z U b V a3 a6 WI;have VT:jb (∀W,cF W (jl (jc ⟨t,0,jj⟩) 4 4) LS->bS W->jr jo 16 #[ja m,(jl (jc ⟨t,0,jj⟩) 4 4)] W λe w'=>∃p1 V p2 c2,e=jt (jv #[jl p1 3 V,jl p2 3 c2])/\
  aH (·<w'.heap.size) w' (jl p1 3 V) 1 3 [je jf 3,je jf 1,je jf 2]/\jm W W w'):=O (λW h P=>by
   rw[X];rw[a2]at h;exact NW _ W h P)
 go_wp2_with (refine VF.loadA ai N N m ax (f.blk (F,m,VF.t) ao) (G ?_))
 refine(VT _ q.out f.tab.s.dig).mono ?_;rintro e b4 ⟨pa,ka,pg,kg,rfl,ad,b⟩;replace f:=O (f.below b);replace q:=O (q.below b);have Vt:=O ad;clear b ad VT
 go_upto_region 8 with fail
 have VS:jb (∀W,cF W (jl (jc ⟨t,0,jj⟩) 4 4) LS->bS W->jr jo 17 #[ja m,(jl (jc ⟨t,0,jj⟩) 4 4)] W λe w'=>∃p1 V u2,e=jt (jv #[jl p1 4 V,u2])/\
  aH (·<w'.heap.size) w' (jl p1 4 V) 1 4 [je jf 3,je jf 1,je jf 2,je jf 0]/\jm W W w'):=O (λW h P=>by
   rw[X];rw[a2]at h;exact QV _ W h P)
 go_wp2_with (refine VF.loadA ai N N m ax (f.blk (F,m,VF.t) ao) (G ?_))
 refine(VS _ q.out f.tab.s.dig).mono ?_;rintro e b5 ⟨pl,kl,ul,rfl,ad,b⟩;replace f:=O (f.below b);replace q:=O (q.below b);replace Vt:=O ((Vt.keep λk g=>b.block k g).mono λk g=>jw g b.size);have a1:=O ad;clear b ad VS
 go_upto_region 9 with fail
 have bh:jb (∀W,cF W (jl (jc ⟨t,0,jj⟩) 4 4) LS->bS W->jr jo 18 #[ja m,(jl (jc ⟨t,0,jj⟩) 4 4)] W λe w'=>∃vm vt,e=jt (jv #[ja (aD (aB cW cN) vm vt).toArray,.bool jh])/\bH w' (aB cW cN) vm vt/\jm W W w'):=O (λW h P=>by
  rw[X];rw[a2]at h;exact Lr _ W h P)
 go_wp2_with (refine VF.loadA ai N N m ax (f.blk (F,m,VF.t) ao) (G ?_))
 refine(bh _ q.out f.tab.s.dig).mono ?_;rintro e bB ⟨mn,tn,rfl,a4,b⟩;replace f:=O (f.below b);replace q:=O (q.below b);replace Vt:=O ((Vt.keep λk g=>b.block k g).mono λk g=>jw g b.size);replace a1:=O ((a1.keep λk g=>b.block k g).mono λk g=>jw g b.size);obtain⟨GN,a3⟩:=J ((aD (aB cW cN) mn tn).toArray);have bC:=O a3;have bI:jb (GN.size=VG.n):=O (by rw[a3,jD];exact eX a4.llen);have bl:jb (GN.all (·.oneCell')=jh):=O (by rw[a3,j5];exact λay c=>mc a4 ay (ak c));have a6:=O a4;rw[<-a3];clear b bh a3 a4
 go_upto_region 10 with(first|(refine VG.made N N (G ?_))|(refine VG.first N N N GN N bI bl (G ?_)))
 obtain⟨bK,NB,z,U,ZX,b⟩:=cX bB GN VG.t;rw[<-z,<-U];replace f:=O ((f.below b).block ZX);replace q:=O (q.below b);replace a6:=O (a6.below b);replace Vt:=O ((Vt.keep λk g=>b.block k g).mono λk g=>jw g b.size);replace a1:=O ((a1.keep λk g=>b.block k g).mono λk g=>jw g b.size);clear z U b ZX bl;have c:jb (S5 w _ _ _ (jl (jc ⟨t,0,jj⟩) 4 4) LS (aB cW cN) mn tn (jl pa 3 ka) (jl pl 4 kl) bK):=O (S5.mk f q a6 Vt a1);clear f q a6 Vt a1;obtain⟨ZG,f⟩:=J ((aD kB vN vN).toArray);have a6:=O f;clear f
 go_wp2_with (refine eD (v:=ja ZG) ai (by rw[a6];exact Aa N _) ?_;refine G ?_)
 rw[a6];refine(Mp _ c.s.tab.s.dig).mono ?_;rintro e b6 ⟨rfl,b⟩;replace c:=O (c.below b);clear b
 go_upto_region 11 with fail
 have f:jb (∀W,bS W->jr jo 16 #[ja m,jl jj 0 0] W λe w'=>∃p1 V p2 c2,e=jt (jv #[jl p1 0 V,jl p2 0 c2])/\jm W W w'):=O (λW P=>by
  rw[X];exact Jg _ (dS _) W P)
 go_wp2_with (refine VF.loadA ai N N m ax (c.s.blk (F,m,VF.t) ao) (G ?_))
 refine(f _ c.s.tab.s.dig).mono ?_;rintro e b7 ⟨b8,b9,ca,cb,rfl,b⟩;replace c:=O (c.below b);clear b;clear f
 go_upto_region 12 with fail
 obtain⟨k,f⟩:=J (kS jj);have a1:jb (k.size=VG.n):=O (by rw[f];exact VG.hZ);have g:jb (k.all (·.oneCell')=jh):=O (by rw[f];kernel_rfl);have a3:jb (k=(aD kB vN vN).toArray):=O (by rw[f];rfl);have q:jb (∀W,bS W->jr jo 18 #[ja m,jl jj 0 0] W λe w'=>e=jt (jv #[ja k,.bool jq])/\jm W W w'):=O (λW P=>by
  rw[X,f];exact OF _ (dS _) W P)
 clear f
 go_wp2_with (refine VF.loadA ai N N m ax (c.s.blk (F,m,VF.t) ao) (G ?_))
 refine(q _ c.s.tab.s.dig).mono ?_;rintro e bM ⟨rfl,b⟩;replace c:=O (c.below b);clear b;clear q
 go_upto_region 13 with(first|(refine VG.made N N (G ?_))|(refine VG.first N N N k N a1 g (G ?_)))
 obtain⟨cc,ZB,z,U,bN,b⟩:=cX bM k VG.t;rw[<-z,<-U];replace c:=O (c.below b);replace c:=O (c.block bN);clear z U b;clear g;obtain⟨I2,q⟩:=J (((aG bU).map v8).toArray);have WU:jb (I2.size=32):=O (by rw[q,jD,jO,dS]);have bh:jb (∀W,aT (·<W.heap.size) W bU q2->bS W->jr jo 8 #[ja aa] W λe w'=>e=jt (ja I2)/\jm W W w'):=O (λW h P=>by
  rw[bk,q];exact pY bU q2 W h lD.2.1 P)
 obtain⟨g,a4⟩:=J ((itC I2.toList 5).toArray);obtain⟨IL,bl⟩:=J ((itC I2.toList 6).toArray);have f:jb (ItP g (aG bU) 5/\ItP IL (aG bU) 6/\g.setIfInBounds 34 (je jf 6)=IL):=O (by
  rw[a4,bl,q];exact⟨itP _ 5 (dS _),itP _ 6 (dS _),Om _ 5 6 (by simp[dS])⟩)
 have bp:=O a4;clear q a4 bl
 go_wp2_with (refine VC.loadA ai N N aa ba (c.s.blk (C2,aa,VC.t) ao) (G ?_))
 refine(bh _ (c.s.com (bU,q2) ao) c.s.tab.s.dig).mono ?_;rintro e bO ⟨rfl,b⟩;replace c:=O (c.below b);clear b;clear bh
 go_upto_region 14 with(first|(refine eD (v:=ja g) ai (by rw[bp];exact MK WU N N _) ?_;refine G ?_)|(refine VIt.made N N (G ?_))|(refine VIt.first N N N g N f.1.sz f.1.one (G ?_)))
 obtain⟨a4,IB,z,U,bT,b⟩:=cX bO g VIt.t;rw[<-z,<-U];replace c:=O (c.below b);replace c:=O (c.block bT);clear z U b;clear bp WU
 go_upto_region 15 with(first|(refine VIt.loadA ai N N g f.1.sz (c.s.blk (IB,g,VIt.t) ao) (G ?_))|(refine VIt.made N N (G ?_))|(refine VIt.first N N N g N f.1.sz f.1.one (G ?_)))
 obtain⟨b0,NL,z,U,q,b⟩:=cX a4 g VIt.t;rw[<-z,<-U];have bh:a4.heap.size<=NL:=ql U.symm;clear z U;have U:=ah (i:=34) q f.1.ctr;have bp:=gt (o:=34) q;have Uu:=O b;have bl:=O bh;clear b bh
 go_upto_region 16 with fail
 clear U bp;have b:=Below.setCell Uu.out (p:=⟨NL,34,jj⟩) bl (je jf 6);have U:=fl (i:=34) (je jf 6) q;rw[f.2.2]at U;obtain⟨cd,z⟩:=J (b0.setCell ⟨NL,34,jj⟩ (je jf 6));rw[<-z]at b U⊢;replace c:=O (c.below b);replace c:=O (c.block U);clear z b U Uu bl q;have q:jb (∀W,jr jo 19 #[ja k,ja k] W λe w'=>e=jt (.bool jh)/\jm W W w'):=O (λW=>by
  rw[a3];exact QA kB vN vN vN vN W (CG W) (CG W) L L)
 go_wp2_with (first|(refine VG.loadA ai N N k a1 (c.s.blk (ZB,k,VG.t) ao) (G ?_))|(refine eD (v:=ja k) ai (by rw[a3];exact Aa N _) ?_;refine G ?_))
 refine(q _).mono ?_;rintro e U ⟨rfl,b⟩;replace c:=O (c.below b);clear b;clear q a3 a1
 go_upto_region 18 with fail
 have a1:jb (∀W ay,dh W ay [3,1,2]->dh W (jl pa 3 ka) [3,1,2]->jr jo 20 #[jl pa 3 ka,ay] W λe w'=>e=jt (.bool jh)/\jm W W w'):=O (λW ay u x=>by
  exact Ue [3,1,2] [3,1,2] _ _ W x u L L)
 obtain⟨-,ce,cf,q,-,-,ay⟩:=(show _ from c.al);obtain⟨gl,ol,a3,-,bh⟩:=ay L;obtain rfl:pl=jc ⟨gl,ol,jj⟩:=by injection q with e;rw[e,a3]
 have Vx:=O bh;obtain⟨pm,km,bl,-⟩:=c.gi.mem.form;rw[Ts oN]at bl;subst bl;have ZX:jb (U.cell? ⟨NB,34,jj⟩=jc (jl pm 1 km)):=O (ah (c.s.blk (NB,GN,VG.t) ao) (by rw[bC,jY];exact(lQ c.gi.llen).2.2.1));have bp:jb (∀W,cF W (jl (jc ⟨t,0,jj⟩) 4 4) LS->bS W->jr jo 21 #[ja m,(jl (jc ⟨t,0,jj⟩) 4 4),ja g] W λe w'=>e=jt (.bool jh)/\jm W W w'):=O (λW h P=>by
  rw[X];rw[a2]at h;exact DF _ W h P g 5 f.1.id f.1.dev f.1.ctr)
 have bu:jb (∀W,cF W (jl (jc ⟨t,0,jj⟩) 4 4) LS->bS W->jr jo 21 #[ja m,(jl (jc ⟨t,0,jj⟩) 4 4),ja IL] W λe w'=>e=jt (.bool jq)/\jm W W w'):=O (λW h P=>by
  rw[X];rw[a2]at h;exact DF _ W h P IL 6 f.2.1.id f.2.1.dev f.2.1.ctr)
 have Vr:jb (∀W,bS W->jr jo 21 #[ja m,jl jj 0 0,ja g] W λe w'=>e=jt (.bool jq)/\jm W W w'):=O (λW P=>by
  rw[X];exact Kb _ (dS _) W P g (aG bU) (dS _) 0 5 f.1.id f.1.dev f.1.ctr)
 clear ay bh q a3
 go_wp2_with fail
 have b:=ap U (jk #[je jf 3,je jf 1,je jf 2] 3);have Uw:=jG U (jk #[je jf 3,je jf 1,je jf 2] 3);obtain⟨P,z⟩:=J (U.alloc (jk #[je jf 3,je jf 1,je jf 2] 3));obtain⟨I3,ay⟩:=J U.heap.size;rw[<-z,<-ay]at Uw⊢;rw[<-z]at b;have c0:P.cell? ⟨gl,ol,jj⟩=jc (je jf 3):=aC (Vx 0 _ N) b;have V:P.cell? ⟨gl,ol+1,jj⟩=jc (je jf 1):=aC (Vx 1 _ N) b;have c2:P.cell? ⟨gl,ol+2,jj⟩=jc (je jf 2):=aC (Vx 2 _ N) b;have c3:P.cell? ⟨gl,ol+3,jj⟩=jc (je jf 0):=aC (Vx 3 _ N) b;have c4:=aC ZX b;replace c:=O (c.below b);have H:dh P (jl (jc ⟨I3,0,jj⟩) 3 3) [3,1,2]:=⟨_,3,N,by decide,λ_=>⟨I3,0,rfl,λj hj=>by rw[ow];exact ah Uw (by match j,hj with|0,_=>rfl|1,_=>rfl|2,_=>rfl)⟩⟩;refine(a1 P _ H (aH.ints (l:=[3,1,2]) c.at_)).mono ?_;rintro e a3 ⟨rfl,q⟩;replace c:=O (c.below q);replace c0:=aC c0 q;replace V:=aC V q;replace c2:=aC c2 q;replace c3:=aC c3 q;replace c4:=aC c4 q;clear b q H Uw z ay a1 Vx ZX
 go_wp2_with (first|(refine VF.loadA ai N N m ax (c.s.blk (F,m,VF.t) ao) (G ?_))|(refine VIt.loadA ai N N g f.1.sz (c.s.blk (IB,g,VIt.t) ao) (G ?_)))
 clear c0 V c2 c3 c4;refine(bp _ c.ci c.s.tab.s.dig).mono ?_;rintro e q ⟨rfl,b⟩;replace c:=O (c.below b);clear b;clear bp
 go_wp2_with (first|(refine VF.loadA ai N N m ax (c.s.blk (F,m,VF.t) ao) (G ?_))|(refine VIt.loadA ai N N IL f.2.1.sz (c.s.blk (NL,IL,VIt.t) ao) (G ?_)))
 refine(bu _ c.ci c.s.tab.s.dig).mono ?_;rintro e z ⟨rfl,b⟩;replace c:=O (c.below b);clear b;clear bu
 go_wp2_with (first|(refine VF.loadA ai N N m ax (c.s.blk (F,m,VF.t) ao) (G ?_))|(refine VIt.loadA ai N N g f.1.sz (c.s.blk (IB,g,VIt.t) ao) (G ?_)))
 refine(Vr _ c.s.tab.s.dig).mono ?_;rintro e ay ⟨rfl,b⟩;replace c:=O (c.below b);clear b;clear Vr
 go_wp2_with fail
 go_ret;exact⟨N,c.s.bel⟩
end
section
section
variable {P:Program} {ops:ju jL} {Q:Exit->Act->ji->Prop}
theorem eC.wp_two(R:eC P){o:jL}{a:Act}{w:ji}{K:Act->ji->Prop}(x y:j7)(d:o.op=.buildSlice R.t 2 #[(0,x),(1,y)])(b B:ju jd)(f:a.eval x=ja b)(g:a.eval y=ja B)(j:b.size=R.k)(k:B.size=R.k)
 (h:K (a.put o.dst (jl (jc ⟨w,0,jj⟩) 2 2)) (w.alloc (jk (b.toList++B.toList).toArray R.e))):o.wp P a w K Q:=by
 have l:=R.hk;have m:=R.h0;refine wp_buildSlice R.t R.e 2 _ d (b.toList++B.toList).toArray R.i R.z R.ht R.hi R.hz (by rw[R.hs];omega) (by rw[R.hs];omega) ?_ h;have e:((#[(0,x),(1,y)]:ju (jp×j7)).map fun(i,x)=>(i,a.eval x)).toList=(([j4 b,ja B]:jn jd).zipIdx 0).map λx=>(x.2,x.1):=by simp[f,g]
 rw[e,R.hs];refine(Great.fill_whole R.h0 [j4 b,ja B] _ (λv c=>?_) ao).trans (by simp[ms]);simp only[jF,jP,or_false]at c
 rcases c with rfl|rfl
 ·exact j
 exact k
end
theorem pO{P:Program}{ops:ju jL}{Q:Exit->Act->ji->Prop}{S:ji->Prop}{i:jp}{o:jL}{r:bE}{a:Act}{w:ji}(b:ops[i]?=jc o)(c:Region.wanted o (yielded ops a.tmps)=jq)(d:S w)(h:eJ P ops Q S r (a.put o.dst I) w):eJ P ops Q S (.o i r) a w:=
 aE b λf e=>by rw[if_neg (by rw[c];decide)];exact e _ _ d λ_=>h
theorem yD{W:ji}{g:jp}{a b:Cmt}{c d:CQ}{k B:ju jd}{t:jC}(h:W.heap[g]?=jc (jk (k.toList++B.toList).toArray t (0,0)))(l:k=(aF a c).toArray)(m:B=(aF b d).toArray)
 (f:aT (·<W.heap.size) W a c) (i:aT (·<W.heap.size) W b d):cF W (jl (jc ⟨g,0,jj⟩) 2 2) [(a,c),(b,d)]:=by
 refine⟨⟨?_,_,2,N,jz _,(λe=>by cases e),λ_=>⟨g,0,N,(jN.1 h).1,λj o n=>?_⟩⟩,λp e=>?_⟩
 ·simp only[mz,qd,jU,qD,pL,dl _ _ f.plen f.clen,dl _ _ i.plen i.clen]
  rfl
 ·rw[l,m]at h
  refine ah h ?_
  simpa [pL]using n
 simp only[jF,jP,or_false]at e
 rcases e with rfl|rfl
 ·exact f
 exact i
structure NxA(g:Grp)(c:Cmt)(W w':ji)(e:j9)(X:ju jd)(m t:jd):Prop where
 ret:e=jt (jv #[ja X,je jf (cC g c)])
 sz:X.size=VG.n
 one:X.all (·.oneCell')=jh
 ok:cC g c=0->X=(aD (aB g c) m t).toArray/\bH w' (aB g c) m t
 bel:jm W W w'
theorem B3(g:Grp)(vm vt:jd)(c:Cmt)(q:CQ)(w:ji)(h:bH w g vm vt)(f:aT (·<w.heap.size) w c q)(i:cT (aP c))(j:bS w)(k:g.mem.length<=900000)(l:g.tree.length<=600000):
 jr jo 9 #[ja (aD g vm vt).toArray,ja (aF c q).toArray] w λe w'=>∃X m t,NxA g c w w' e X m t:=by
 refine(yV g vm vt c q w h f i j k l).mono ?_;rintro e w' ⟨n,o,d⟩
 by_cases a:cC g c=0
 ·obtain⟨m,t,rfl,b,-,-⟩:=n a
  refine⟨_,m,t,by rw[a],by rw[jD];exact eX b.llen,?_,λ_=>⟨N,b⟩,d⟩;rw[j5];exact λp r=>mc b p (ak r)
 exact⟨_,je jf 0,je jf 0,o a,VG.hZ,by kernel_rfl,λh=>js h a,d⟩
theorem Ps(w:ji)(a B C:ju jd)(t1 t2 b:jC):∃x M,x=((w.alloc (jk a t1)).alloc (jk B t2)).alloc (jk C b)/\M=w.heap.size/\x.heap[M]?=jc (jk a t1 (0,0))/\x.heap[M+1]?=jc (jk B t2 (0,0))/\x.heap[M+2]?=jc (jk C b (0,0))/\jm w w x:=by
 obtain⟨x1,M,d,e,l,f⟩:=cX w a t1;obtain⟨x2,m,g,h,n,i⟩:=cX x1 B t2;obtain⟨o,p,q,r,s,c⟩:=cX x2 C b;have j:m=M+1:=by rw[h,d,j3,e]
 have t:p=M+2:=by rw[r,g,j3,<-h,j]
 subst j;subst t;have k:=f.trans (i.mono f.size);exact⟨o,M,by rw[q,g,d],e,av (av l i) c,av n c,s,k.trans (c.mono k.size)⟩
theorem S6(g:Grp)(vm vt:jd)(a:Cmt)(r:CQ)(b:Cmt)(s:CQ)(w:ji)(E:bH w g vm vt)(m:aT (·<w.heap.size) w a r)(n:aT (·<w.heap.size) w b s)(a2:wQ a)(a3:wQ b)(S:g.tree.length<=jB)
 (t:a.chg.length<=jB/\a.box.length<=jB/\a.wel.length<=jB) (lb:b.chg.length<=jB/\b.box.length<=jB/\b.wel.length<=jB) (hT:gJ w):
 jr jo 3 #[ja (aD g vm vt).toArray,ja (aF a r).toArray,ja (aF b s).toArray] w λe w'=>e=jt (.bool jh)/\jm w w w':=by
 have HL:=O (And.intro S (And.intro t lb));have HI:=O (And.intro a2 a3);obtain⟨j,o⟩:=J ((aD g vm vt).toArray);obtain⟨f,k⟩:=J ((aF a r).toArray);obtain⟨i,l⟩:=J ((aF b s).toArray);have YP:jb (j.size=VG.n):=O (by rw[o,jD];exact eX E.llen);have F:jb (f.size=VC.n):=O (by rw[k,jD];exact dl _ _ m.plen m.clen);have H:jb (i.size=VC.n):=O (by rw[l,jD];exact dl _ _ n.plen n.clen);obtain⟨au,u⟩:=J a.author;obtain⟨B,D⟩:=J b.author;have ax:jb (f[34]?=jc (je jf au)):=O (by rw[k,u,jY];exact(iy a r m.plen m.clen).2.2.1);have ay:jb (i[34]?=jc (je jf B)):=O (by rw[l,D,jY];exact(iy b s n.plen n.clen).2.2.1);have Q:jb (∀W,bH W g vm vt->jr jo 5 #[ja j] W λe w'=>(∃b,e=jt (.bool b)/\(b=jh->g.mem.length<=8/\g.tree.length<=80))/\jm W W w'):=O (λW h=>by rw[o];exact JS g vm vt W h S);have ad:jb (∀W v,cF W v [(a,r),(b,s)]->jr jo 6 #[v] W λe w'=>(∃y,e=jt (.bool y)/\(y=jh->rq a/\rq b))/\jm W W w'):=O (λW v h=>by
  refine(Rs _ v W h (λp x=>?_) (show 2<=jB by decide)).mono ?_
  ·simp only[jF,jP,or_false]at x
   rcases x with rfl|rfl
   ·exact t.2
   exact lb.2
  rintro e w' ⟨⟨y,h1,h2⟩,c⟩;exact⟨⟨y,h1,λe=>⟨(h2 e).2 (a,r) ao,(h2 e).2 (b,s) ao⟩⟩,c⟩)
 obtain⟨ra,y⟩:=J (gS a b.author);obtain⟨rb,U⟩:=J (gS b a.author);have a5:jb (∀W,aT (·<W.heap.size) W a r->jr jo 7 #[ja f,je jf B] W λe w'=>e=jt (.bool ra)/\jm W W w'):=O (λW h=>by rw[k,D,y];exact DC a r b.author W h t.1);have a6:jb (∀W,aT (·<W.heap.size) W b s->jr jo 7 #[ja i,je jf au] W λe w'=>e=jt (.bool rb)/\jm W W w'):=O (λW h=>by rw[l,u,U];exact DC b s a.author W h lb.1);obtain⟨IA,V⟩:=J (((aG a).map v8).toArray);obtain⟨IB,X⟩:=J (((aG b).map v8).toArray);obtain⟨ei,aa⟩:=J (decide (aG a=aG b));have ba:jb (∀z,(Op.equalIn 10000 23 (ja IA) (ja IB)).run jo z=.ok ei z):=O (λz=>by rw[V,X,aa];exact nZ _ _ (dS a) (dS b) z);have a1:jb (∀W,cT (aP a)->cT (aP b)->bS W->(aT (·<W.heap.size) W a r->jr jo 8 #[ja f] W λe w'=>e=jt (ja IA)/\jm W W w')/\
  (aT (·<W.heap.size) W b s->jr jo 8 #[ja i] W λe w'=>e=jt (ja IB)/\jm W W w')):=O (λW e1 e2 R=>by
   rw[k,l,V,X];exact⟨λh=>pY a r W h e1 R,λh=>pY b s W h e2 R⟩)
 have UX:=O (And.intro y (And.intro U aa));have z:=O (And.intro o (And.intro k l));have K:=O (And.intro u D);obtain⟨x1,M,q,hM,C,k2,k3,d⟩:=Ps w j f i VG.t VC.t VC.t;have c:jb (SSt w [(M,j,VG.t),(M+1,f,VC.t),(M+2,i,VC.t)] [(a,r),(b,s)] [(g,vm,vt)] x1):=O ⟨λe he=>by
  simp only[jF,jP,or_false]at he
  rcases he with rfl|rfl|rfl
  ·exact C
  ·exact k2
  ·exact k3,λp x=>by
  simp only[jF,jP,or_false]at x
  rcases x with rfl|rfl
  ·exact m.below d
  ·exact n.below d,λp x=>by
  simp only[jF,jP,or_false]at x;subst x;exact E.below d,hT.below d,d⟩
 rw[<-o,<-k,<-l];have P:=O q;have HM:=O hM;clear o k l u D y U V X aa q hM C k2 k3 d E m n a2 a3 S t lb hT
 go_enter func3,ntmps3
 go_upto_region 1 with fail
 rw[show((w.alloc (jk j 29)).alloc (jk f 37)).alloc (jk i 37)=x1 from P.symm]
 try simp only[j3]
 try rw[show w.heap.size+1+1=w.heap.size+2 from N]
 rw[<-HM];clear P HM
 go_wp2_with fail
 refine(J5 x1 c.tab).mono ?_;rintro e x2 ⟨rfl,d⟩;replace c:=O (c.below d);clear d
 go_upto_region 3 with fail
 have d:=bX x2;obtain⟨x3,q⟩:=J x2.drew;replace c:jb (SSt w _ _ _ x3):=O (by rw[q];exact c.below d);have P:=O q;clear q d;refine j8 ?_;refine dj (λu=>u.heap[M]?=jc (jk j VG.t (0,0))/\u.heap[M+1]?=jc (jk f VC.t (0,0))/\u.heap[M+2]?=jc (jk i VC.t (0,0))) (.t 0 (.o 1 (.t 2 (.t 3 (.t 4 (.t 5 (.o 6 (.o 7 (.t 8 (.t 9 (.t 10 (.t 11 (.t 12 (.t 13 (.t 14 (.t 15 (.t 16 (.t 17 (.t 18 (.t 19 (.t 20 (.o 21 (.t 22 (.t 23 (.t 24 (.t 25 (.t 26 (.t 27 (.o 28 (.t 29 (.t 30 (.t 31 (.t 32 (.t 34 (.o 33 (.o 35 (.t 36 (.t 37 .done)))))))))))))))))))))))))))))))))))))) af af af L (λ_ _ _ _ h=>h) (by rw[<-P];exact⟨c.blk (M,j,VG.t) ao,c.blk (M+1,f,VC.t) ao,c.blk (M+2,i,VC.t) ao⟩) ?_;rw[<-P];clear P
 (refine aS (v:=ja j) N ai (λu n=>cM VG.hu VG.hd (by rw[YP];exact VG.hi) N N n.1) ?_;refine G ?_)
 refine aE N (λS o=>?_);go_simp;refine(Q x3 (c.grp (g,vm,vt) ao)).mono ?_;rintro e x4 ⟨⟨y1,rfl,k⟩,d⟩;replace c:=O (c.below d);refine o _ _ ⟨c.blk (M,j,VG.t) ao,c.blk (M+1,f,VC.t) ao,c.blk (M+2,i,VC.t) ao⟩ λ_=>?_
 clear o d;refine G ?_;clear Q
 rcases y1 with _|_
 ·clear k
  repeat (first|refine fF ?_|refine aK ?_|(refine pO N ai ⟨c.blk (M,j,VG.t) ao,c.blk (M+1,f,VC.t) ao,c.blk (M+2,i,VC.t) ao⟩ (G ?_)))
  refine jQ ?_
  go_wp2_with fail
  go_ret;exact⟨N,c.bel⟩
 have Q:=O (k N);clear k;iterate 2 refine aK ?_
 (refine aS (v:=ja f) N ai (λu n=>cM VC.hu VC.hd (by rw[F];exact VC.hi) N N n.2.1) ?_;refine G ?_)
 (refine aS (v:=ja i) N ai (λu n=>cM VC.hu VC.hd (by rw[H];exact VC.hi) N N n.2.2) ?_;refine G ?_)
 refine aE N (λS o=>?_);rw[jA ai];refine RCm.wp_two _ _ N f i N N F H ?_;obtain⟨x5,SL,q,y,U,d⟩:=cX x4 (f.toList++i.toList).toArray RCm.e;rw[<-q,<-y];replace c:=O (c.below d);refine o _ _ ⟨c.blk (M,j,VG.t) ao,c.blk (M+1,f,VC.t) ao,c.blk (M+2,i,VC.t) ao⟩ λ_=>?_
 clear o d q y;refine G ?_;have V:jb (cF x5 (jl (jc ⟨SL,0,jj⟩) 2 2) [(a,r),(b,s)]):=O (yD U z.2.1 z.2.2 (c.com (a,r) ao) (c.com (b,s) ao));clear U;refine aE N (λS o=>?_);go_simp;refine(ad x5 _ V.out).mono ?_;rintro e x6 ⟨⟨y1,rfl,k⟩,d⟩;replace c:=O (c.below d);refine o _ _ ⟨c.blk (M,j,VG.t) ao,c.blk (M+1,f,VC.t) ao,c.blk (M+2,i,VC.t) ao⟩ λ_=>?_
 clear o d;refine G ?_;clear ad V
 rcases y1 with _|_
 ·clear k
  repeat (first|refine fF ?_|refine aK ?_|(refine pO N ai ⟨c.blk (M,j,VG.t) ao,c.blk (M+1,f,VC.t) ao,c.blk (M+2,i,VC.t) ao⟩ (G ?_)))
  refine jQ ?_
  go_wp2_with fail
  go_ret;exact⟨N,c.bel⟩
 have ad:=O (k N);clear k;iterate 4 refine aK ?_
 (refine aS (v:=?_) N ai (λu n=>?_) ?_;rotate_left;(have k:=ah n.2.1 ax;clear n;go_simp;with_reducible rfl);refine G ?_)
 refine aK ?_
 (refine aS (v:=?_) N ai (λu n=>?_) ?_;rotate_left;(have k:=ah n.2.2 ay;clear n;go_simp;with_reducible rfl);refine G ?_)
 by_cases Zj:au=B
 ·have e1:(au==B)=jh:=ak Zj
  have e2:decide (au=B)=jh:=ak Zj;clear Zj
  repeat (first|refine fF ?_|refine aK ?_|(refine pO N ai ⟨c.blk (M,j,VG.t) ao,c.blk (M+1,f,VC.t) ao,c.blk (M+2,i,VC.t) ao⟩ (G ?_)))
  refine jQ ?_
  go_wp2_with fail
  go_ret;exact⟨N,c.bel⟩
 have e1:(au==B)=jq:=ak Zj;have e2:decide (au=B)=jq:=ak Zj;have a4:=O Zj;clear Zj;refine aK ?_;clear e1 e2;iterate 2 refine aK ?_
 (refine aS (v:=ja f) N ai (λu n=>cM VC.hu VC.hd (by rw[F];exact VC.hi) N N n.2.1) ?_;refine G ?_)
 refine aK ?_
 (refine aS (v:=?_) N ai (λu n=>?_) ?_;rotate_left;(have k:=ah n.2.2 ay;clear n;go_simp;with_reducible rfl);refine G ?_)
 refine aE N (λS o=>?_);go_simp;refine(a5 x6 (c.com (a,r) ao)).mono ?_;rintro e x7 ⟨rfl,d⟩;replace c:=O (c.below d);refine o _ _ ⟨c.blk (M,j,VG.t) ao,c.blk (M+1,f,VC.t) ao,c.blk (M+2,i,VC.t) ao⟩ λ_=>?_
 clear o d;refine G ?_;clear a5
 rcases ra with _|_
 ·repeat (first|refine fF ?_|refine aK ?_|(refine pO N ai ⟨c.blk (M,j,VG.t) ao,c.blk (M+1,f,VC.t) ao,c.blk (M+2,i,VC.t) ao⟩ (G ?_)))
  refine jQ ?_
  go_wp2_with fail
  go_ret;exact⟨N,c.bel⟩
 iterate 3 refine aK ?_
 (refine aS (v:=ja i) N ai (λu n=>cM VC.hu VC.hd (by rw[H];exact VC.hi) N N n.2.2) ?_;refine G ?_)
 refine aK ?_
 (refine aS (v:=?_) N ai (λu n=>?_) ?_;rotate_left;(have k:=ah n.2.1 ax;clear n;go_simp;with_reducible rfl);refine G ?_)
 refine aE N (λS o=>?_);go_simp;refine(a6 x7 (c.com (b,s) ao)).mono ?_;rintro e x8 ⟨rfl,d⟩;replace c:=O (c.below d);refine o _ _ ⟨c.blk (M,j,VG.t) ao,c.blk (M+1,f,VC.t) ao,c.blk (M+2,i,VC.t) ao⟩ λ_=>?_
 clear o d;refine G ?_;clear a6
 rcases rb with _|_
 ·repeat (first|refine fF ?_|refine aK ?_|(refine pO N ai ⟨c.blk (M,j,VG.t) ao,c.blk (M+1,f,VC.t) ao,c.blk (M+2,i,VC.t) ao⟩ (G ?_)))
  refine jQ ?_
  go_wp2_with fail
  go_ret;exact⟨N,c.bel⟩
 have aa:jb (cT (aP a)/\cT (aP b)):=O ⟨(FM ad.1 HI.1 (c.com (a,r) ao).plen (c.com (a,r) ao).clen).encOk,(FM ad.2 HI.2 (c.com (b,s) ao).plen (c.com (b,s) ao).clen).encOk⟩;iterate 3 refine aK ?_
 (refine aS (v:=ja f) N ai (λu n=>cM VC.hu VC.hd (by rw[F];exact VC.hi) N N n.2.1) ?_;refine G ?_)
 (refine aS (v:=ja i) N ai (λu n=>cM VC.hu VC.hd (by rw[H];exact VC.hi) N N n.2.2) ?_;refine G ?_)
 refine aE N (λS o=>?_);go_simp;refine((a1 x8 aa.1 aa.2 c.tab.s.dig).1 (c.com (a,r) ao)).mono ?_;rintro e x9 ⟨rfl,d⟩;replace c:=O (c.below d);refine o _ _ ⟨c.blk (M,j,VG.t) ao,c.blk (M+1,f,VC.t) ao,c.blk (M+2,i,VC.t) ao⟩ λ_=>?_
 clear o d;refine G ?_;refine aE N (λS o=>?_);go_simp;refine((a1 x9 aa.1 aa.2 c.tab.s.dig).2 (c.com (b,s) ao)).mono ?_;rintro e bg ⟨rfl,d⟩;replace c:=O (c.below d);refine o _ _ ⟨c.blk (M,j,VG.t) ao,c.blk (M+1,f,VC.t) ao,c.blk (M+2,i,VC.t) ao⟩ λ_=>?_
 clear o d;refine G ?_;clear a1;have l:=ba.out;refine fH ?_;clear l ba
 cases ei with
 |true=>
  repeat (first|refine fF ?_|refine aK ?_|(refine pO N ai ⟨c.blk (M,j,VG.t) ao,c.blk (M+1,f,VC.t) ao,c.blk (M+2,i,VC.t) ao⟩ (G ?_)))
  refine jQ ?_
  go_wp2_with fail
  go_ret;exact⟨N,c.bel⟩
 |false=>
  refine aK ?_;refine jQ ?_
  go_upto_region 5 with fail
  obtain⟨ea,l⟩:=J (cC g a);obtain⟨eb,D⟩:=J (cC g b);have E:jb (∀W,bH W g vm vt->bS W->(aT (·<W.heap.size) W a r->jr jo 9 #[ja j,ja f] W λe w'=>∃X m t,e=jt (jv #[ja X,je jf ea])/\NxA g a W w' e X m t)/\
   (aT (·<W.heap.size) W b s->jr jo 9 #[ja j,ja i] W λe w'=>∃X m t,e=jt (jv #[ja X,je jf eb])/\NxA g b W w' e X m t)):=O (λW h R=>by
    rw[z.1,z.2.1,z.2.2,l,D];have h1:=Q.1;have h2:=Q.2;exact⟨λhc=>(B3 g vm vt a r W h hc aa.1 R Y Y).mono λe w' ⟨X,m,t,h⟩=>⟨X,m,t,h.ret,h⟩,λhc=>(B3 g vm vt b s W h hc aa.2 R Y Y).mono λe w' ⟨X,m,t,h⟩=>⟨X,m,t,h.ret,h⟩⟩)
  have X:=O (And.intro l D);clear l D
  go_wp2_with (first|(refine VG.loadA ai N N j YP (c.blk (M,j,VG.t) ao) (G ?_))|(refine VC.loadA ai N N f F (c.blk (M+1,f,VC.t) ao) (G ?_))|(refine VC.loadA ai N N i H (c.blk (M+2,i,VC.t) ao) (G ?_)))
  refine((E bg (c.grp (g,vm,vt) ao) c.tab.s.dig).1 (c.com (a,r) ao)).mono ?_;rintro e bh ⟨XA,mA,tA,rfl,t⟩;have d:=t.bel;replace c:=O (c.below d);have l:=O t.ok;have bc:=O t.sz;have m:=O t.one;clear t d
  go_upto_region 6 with(first|(refine VG.made N N (G ?_))|(refine VG.first N N N XA N bc m (G ?_)))
  obtain⟨bi,NA,q,y,D,d⟩:=cX bh XA VG.t;rw[<-q,<-y];replace c:=O ((c.below d).block D);replace l:=O λh=>And.intro (l h).1 ((l h).2.below d)
  clear q y d D m
  go_wp2_with (first|(refine VG.loadA ai N N j YP (c.blk (M,j,VG.t) ao) (G ?_))|(refine VC.loadA ai N N f F (c.blk (M+1,f,VC.t) ao) (G ?_))|(refine VC.loadA ai N N i H (c.blk (M+2,i,VC.t) ao) (G ?_)))
  refine((E bi (c.grp (g,vm,vt) ao) c.tab.s.dig).2 (c.com (b,s) ao)).mono ?_;rintro e bk ⟨XB,mB,tB,rfl,t⟩;have d:=t.bel;replace c:=O (c.below d);replace l:=O λh=>And.intro (l h).1 ((l h).2.below d)
  have m:=O t.ok;have bd:=O t.sz;have a1:=O t.one;clear t d
  go_upto_region 7 with(first|(refine VG.made N N (G ?_))|(refine VG.first N N N XB N bd a1 (G ?_)))
  obtain⟨bf,NB,q,y,D,d⟩:=cX bk XB VG.t;rw[<-q,<-y];replace c:=O ((c.below d).block D);replace l:=O λh=>And.intro (l h).1 ((l h).2.below d)
  replace m:=O λh=>And.intro (m h).1 ((m h).2.below d)
  clear q y d D a1;clear E
  by_cases t:ea=0
  case neg=>
   have t1:(ea==0)=jq:=ak t;have t2:decide (ea=0)=jq:=ak t;have D:(ea !=0)=jh:=ak t;have E:(!decide (ea=0))=jh:=ak t;clear t
   go_wp2_with fail
   go_ret;exact⟨N,c.bel⟩
  subst t
  by_cases t:eb=0
  case neg=>
   have t1:(eb==0)=jq:=ak t;have t2:decide (eb=0)=jq:=ak t;have D:(eb !=0)=jh:=ak t;have E:(!decide (eb=0))=jh:=ak t;clear t
   go_wp2_with fail
   go_ret;exact⟨N,c.bel⟩
  subst t;have a2:jb (cC g a=0):=O X.1.symm;have a3:jb (cC g b=0):=O X.2.symm;replace l:=O (l a2);replace m:=O (m a3);clear X
  go_upto_region 9 with fail
  obtain⟨D,a5⟩:=J (dW g a.author);obtain⟨E,ZV⟩:=J (dW g b.author);have Y4:jb (∀W,bH W g vm vt->(jr jo 10 #[ja j,je jf au] W λe w'=>e=jt (je jf D)/\jm W W w')/\(jr jo 10 #[ja j,je jf B] W λe w'=>e=jt (je jf E)/\jm W W w')):=O (λW h=>by
   rw[z.1,K.1,K.2,a5,ZV];have X:g.mem.length<=jB:=jK Q.1 L;exact⟨G9 g vm vt _ W h X,G9 g vm vt _ W h X⟩)
  obtain⟨X,C,a1⟩:∃X C:jg,(gT g a b/\X=0/\C=1)\/(gT g b a/\X=1/\C=0):=by
   by_cases h:gT g a b
   ·exact⟨0,1,.inl ⟨h,N,N⟩⟩
   exact⟨1,0,.inr ⟨(B6 (λe=>a4.out (by rw[K.1,K.2];exact e))).1 h,N,N⟩⟩
  have a6:a.author≠b.author:=λe=>a4.out (by rw[K.1,K.2];exact e)
  have ba:aG a≠aG b:=of_decide_eq_false UX.2.2.symm;have bb:jb (∀W v,bH W g vm vt->bS W->(cF W v [(a,r),(b,s)]->jr jo 11 #[ja j,v] W λe w'=>e=jt (jv #[je jf X,.bool jh])/\jm W W w')/\
   (cF W v [(b,s),(a,r)]->jr jo 11 #[ja j,v] W λe w'=>e=jt (jv #[je jf C,.bool jh])/\jm W W w')):=O (λW v hg R=>by
    rw[z.1];have n1:=Q.1;have n2:=Q.2;have ca:a.chg.length<=1000000:=jK ad.1.nchg L;have cb:b.chg.length<=1000000:=jK ad.2.nchg L;have wa:=IF ba a6 a2 a3 UX.1.symm UX.2.1.symm;have wb:=IF (λe=>ba e.symm) (λe=>a6 e.symm) a3 a2 UX.2.1.symm UX.1.symm;refine⟨λhl=>(AS _ v g vm vt W hl hg (λp x=>?_) R ao Y Y (λp x=>?_)).mono ?_,λhl=>(AS _ v g vm vt W hl hg (λp x=>?_) R ao Y Y (λp x=>?_)).mono ?_⟩
    any_goals (simp only[jF,jP,or_false]at x;rcases x with rfl|rfl<;>(first|exact aa.1|exact ca|exact aa.2|exact cb))
    ·rintro e w' ⟨rfl,h2⟩
     refine⟨?_,h2⟩
     rcases a1 with⟨h,rfl,rfl⟩|⟨h,rfl,rfl⟩
     ·simp only[jR,jH,wa.1 h];rfl
     simp only[jR,jH,wa.2 h];rfl
    rintro e w' ⟨rfl,h2⟩;refine⟨?_,h2⟩
    rcases a1 with⟨h,rfl,rfl⟩|⟨h,rfl,rfl⟩
    ·simp only[jR,jH,wb.2 h];rfl
    simp only[jR,jH,wb.1 h];rfl)
  have x:jb ((∀W,bH W (aB g a) mA tA->jr jo 12 #[ja XA,je jf B] W λe w'=>e=jt (.bool jq)/\jm W W w')/\
   ∀W,bH W (aB g b) mB tB->jr jo 12 #[ja XB,je jf au] W λe w'=>e=jt (.bool jq)/\jm W W w'):=O (by
    have p:=fW.1 a2;have R:=fW.1 a3;have r1:=C1 p UX.1.symm;have r2:=C1 R UX.2.1.symm;have s1:=(nN (gY p)).1;have s2:=(nN (gY R)).1;refine⟨λW h=>?_,λW h=>?_⟩
    ·have k:=Dw (aB g a) mA tA B W h (jK s1 L)
     rw[<-l.1,show cD (aB g a).mem B=jq from by rw[K.2];exact r1]at k;exact k
    have k:=Dw (aB g b) mB tB au W h (jK s2 L);rw[<-m.1,show cD (aB g b).mem au=jq from by rw[K.1];exact r2]at k;exact k)
  have hc:(decide (D<E)=jh/\X=0/\C=1)\/(decide (D<E)=jq/\(D==E)=jh/\decide (D=E)=jh/\decide (au<B)=jh/\X=0/\C=1)\/(decide (D<E)=jq/\(D==E)=jh/\decide (D=E)=jh/\decide (au<B)=jq/\X=1/\C=0)\/
   (decide (D<E)=jq/\(D==E)=jq/\decide (D=E)=jq/\X=1/\C=0):=by
   unfold gT at a1;rw[<-a5,<-ZV,<-K.1,<-K.2]at a1;have Zj:=a4.out;simp only[decide_eq_true_eq,decide_eq_false_iff_not,beq_iff_eq,beq_eq_false_iff_ne,ne_eq];omega
  have W:=O hc;clear hc a1 a5 ZV a6 ba;have d:=bX bf;obtain⟨p,q⟩:=J bf.drew;replace c:jb (SSt w _ _ _ p):=O (by rw[q];exact c.below d);replace l:jb (_ /\bH p _ _ _):=O (And.intro l.1 (by rw[q];exact l.2.below d));replace m:jb (_ /\bH p _ _ _):=O (And.intro m.1 (by rw[q];exact m.2.below d));have P:=O q;clear q d;refine j8 ?_;refine dj (λu=>u.heap[M]?=jc (jk j VG.t (0,0))/\u.heap[M+1]?=jc (jk f VC.t (0,0))/\u.heap[M+2]?=jc (jk i VC.t (0,0))) (.t 0 (.t 1 (.t 2 (.t 4 (.t 5 (.t 6 (.o 3 (.o 7 (.t 8 (.t 9 .done)))))))))) af af af L (λ_ _ _ _ h=>h) (by rw[<-P];exact⟨c.blk (M,j,VG.t) ao,c.blk (M+1,f,VC.t) ao,c.blk (M+2,i,VC.t) ao⟩) ?_;rw[<-P];clear P
  (refine aS (v:=ja j) N ai (λu n=>cM VG.hu VG.hd (by rw[YP];exact VG.hi) N N n.1) ?_;refine G ?_)
  refine aK ?_
  (refine aS (v:=?_) N ai (λu n=>?_) ?_;rotate_left;(have k:=ah n.2.1 ax;clear n;go_simp;with_reducible rfl);refine G ?_)
  (refine aS (v:=ja j) N ai (λu n=>cM VG.hu VG.hd (by rw[YP];exact VG.hi) N N n.1) ?_;refine G ?_)
  refine aK ?_
  (refine aS (v:=?_) N ai (λu n=>?_) ?_;rotate_left;(have k:=ah n.2.2 ay;clear n;go_simp;with_reducible rfl);refine G ?_)
  refine aE N (λS o=>?_);go_simp;refine((Y4 p (c.grp (g,vm,vt) ao)).1).mono ?_;rintro e a1 ⟨rfl,d⟩;replace c:=O (c.below d);replace l:=O (And.intro l.1 (l.2.below d));replace m:=O (And.intro m.1 (m.2.below d));refine o _ _ ⟨c.blk (M,j,VG.t) ao,c.blk (M+1,f,VC.t) ao,c.blk (M+2,i,VC.t) ao⟩ λ_=>?_
  clear o d;refine G ?_;refine aE N (λS o=>?_);go_simp;refine((Y4 a1 (c.grp (g,vm,vt) ao)).2).mono ?_;rintro e a5 ⟨rfl,d⟩;replace c:=O (c.below d);replace l:=O (And.intro l.1 (l.2.below d));replace m:=O (And.intro m.1 (m.2.below d));refine o _ _ ⟨c.blk (M,j,VG.t) ao,c.blk (M+1,f,VC.t) ao,c.blk (M+2,i,VC.t) ao⟩ λ_=>?_
  clear o d;refine G ?_;iterate 2 refine aK ?_
  clear Y4;refine jQ ?_
  go_upto_region 10 with fail
  have k:=ah (c.blk (M+1,f,VC.t) ao) ax;have n:=ah (c.blk (M+2,i,VC.t) ao) ay
  rcases W.out with⟨u,rfl,rfl⟩|⟨u,u1,u2,P,rfl,rfl⟩|⟨u,u1,u2,P,rfl,rfl⟩|⟨u,u1,u2,rfl,rfl⟩
  all_goals
   go_upto_region 11 with fail
   clear k n;try clear P;try clear u2;try clear u1;try clear u
   go_wp2_with (first|(refine VG.loadA ai N N j YP (c.blk (M,j,VG.t) ao) (G ?_))|(refine VC.loadA ai N N f F (c.blk (M+1,f,VC.t) ao) (G ?_))|(refine VC.loadA ai N N i H (c.blk (M+2,i,VC.t) ao) (G ?_))|(refine oj N λ_ o=>RCm.wp_two _ _ N f i N N F H (o _ _ ?_);clear o;refine G ?_))
   obtain⟨R,a6,q,y,U,d⟩:=cX a5 (f.toList++i.toList).toArray RCm.e
   try simp only[<-q,<-y]
   replace c:=O (c.below d);replace l:=O (And.intro l.1 (l.2.below d));replace m:=O (And.intro m.1 (m.2.below d));have V:jb (cF R (jl (jc ⟨a6,0,jj⟩) 2 2) [(a,r),(b,s)]):=O (yD U z.2.1 z.2.2 (c.com (a,r) ao) (c.com (b,s) ao));clear q y d U;refine((bb R _ (c.grp (g,vm,vt) ao) c.tab.s.dig).1 V).mono ?_;rintro e ba ⟨rfl,d⟩;replace c:=O (c.below d);replace l:=O (And.intro l.1 (l.2.below d));replace m:=O (And.intro m.1 (m.2.below d));clear d V
   go_upto_region 12 with fail
   go_wp2_with (first|(refine VG.loadA ai N N j YP (c.blk (M,j,VG.t) ao) (G ?_))|(refine VC.loadA ai N N f F (c.blk (M+1,f,VC.t) ao) (G ?_))|(refine VC.loadA ai N N i H (c.blk (M+2,i,VC.t) ao) (G ?_))|(refine oj N λ_ o=>RCm.wp_two _ _ N i f N N H F (o _ _ ?_);clear o;refine G ?_))
   obtain⟨S,bl,q,y,U,d⟩:=cX ba (i.toList++f.toList).toArray RCm.e
   try simp only[<-q,<-y]
   replace c:=O (c.below d);replace l:=O (And.intro l.1 (l.2.below d));replace m:=O (And.intro m.1 (m.2.below d));have V:jb (cF S (jl (jc ⟨bl,0,jj⟩) 2 2) [(b,s),(a,r)]):=O (yD U z.2.2 z.2.1 (c.com (b,s) ao) (c.com (a,r) ao));clear q y d U;refine((bb S _ (c.grp (g,vm,vt) ao) c.tab.s.dig).2 V).mono ?_;rintro e q ⟨rfl,d⟩;replace c:=O (c.below d);replace l:=O (And.intro l.1 (l.2.below d));replace m:=O (And.intro m.1 (m.2.below d));clear d V
   go_upto_region 13 with fail
   clear bb;have k:=ah (c.blk (M+1,f,VC.t) ao) ax;have n:=ah (c.blk (M+2,i,VC.t) ao) ay
   go_wp2_with (first|(refine VG.loadA ai N N XA bc (c.blk (NA,XA,VG.t) ao) (G ?_)))
   refine(x.1 q l.2).mono ?_;rintro e y ⟨rfl,d⟩;replace c:=O (c.below d);replace l:=O (And.intro l.1 (l.2.below d));replace m:=O (And.intro m.1 (m.2.below d));replace k:=aC k d;replace n:=aC n d;clear d
   go_wp2_with (first|(refine VG.loadA ai N N XB bd (c.blk (NB,XB,VG.t) ao) (G ?_)))
   refine(x.2 y m.2).mono ?_;rintro e U ⟨rfl,d⟩;replace c:=O (c.below d);clear d k n
   go_wp2_with fail
   go_ret;exact⟨N,c.bel⟩
end
section
open Go.RowKit Go.ChangeShapes Go.WideShapes Go.Deep
theorem mutual_w{H:Type}{enc:jC×jd->H}(c:jd)(h:DataW H)(i:jn MemPlace)(j:DataW.Trod enc jo w 0 (λ_=>jh) jh 29 c h i)(k:qt jo w .any x 29 c)
 (d:jd) (l:DataW H) (m:jn MemPlace) (n:DataW.Trod enc jo w 0 (λ_=>jh) jh 37 d l m) (o:qt jo w .any x 37 d)
 (f:jd) (p:DataW H) (q:jn MemPlace) (r:DataW.Trod enc jo w 0 (λ_=>jh) jh 37 f p q) (s:qt jo w .any x 37 f) (t:laidMetH jo sZ w):
 jr jo 3 #[c,d,f] w λe u=>e=.returned (.bool jh)/\jm w w u:=by
 obtain⟨g,vm,vt,rfl,v,F,K,W,-⟩:=Rb j k;obtain⟨a,base,rfl,y,z,B⟩:=EU n o;obtain⟨b,C,rfl,D,E,lb⟩:=EU r s;exact S6 g vm vt a base b C w v y D z E W B lb (Lo t)
end

end Go.Proofs.YtpmlopbaafjefaaGreatDoor
